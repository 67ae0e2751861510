/- For all arguments the law FnExactForbiddenOf returns true. No conditions. -/
import Derived.Test.YtgbbidlbdjbilaaLawU
import Derived.Test.YtgbbidlbdjbilaaShFi
namespace Go.Proofs.Ytgbbidlbdjbilaa
open Go.ChangeShapes Go.WideShapes Go.ChangeAt Go.RowKit Go.Cm

theorem RowB.ne_low {w : World} {B C b : Nat} {v : Value} {F : List (List UInt8)} (h : RowB w B C v F) (hb : b < B) : v.ownBlock ≠ some b := fun e => by
  have := (World.ownsRow.lt h.1 b e).1
  omega
theorem RowB.ne_high {w : World} {B C b : Nat} {v : Value} {F : List (List UInt8)} (h : RowB w B C v F) (hb : C ≤ b) : v.ownBlock ≠ some b := fun e => by
  have := h.2 b e
  omega
theorem ForbiddenOf_small (L : Int) (F : List (List UInt8)) : ((forbO L F).getD []).length ≤ 1048576 := by
  unfold forbO
  split
  · split
    · simp only [Option.getD_some]; omega
    · simp
  · simp
set_option maxRecDepth 100000 in
set_option maxHeartbeats 4000000 in
theorem exactForbiddenOf_any (L : Int) (u : Value) (xs : List ByteArray) (w : World) (_ : -9223372036854775808 ≤ L ∧ L ≤ 9223372036854775807) (A : ReadsS w u xs ∧ ∀ s ∈ xs, s.size ≤ maxLen) (hm : MaxC w) :
    Calls Try.prog 9 #[.agg #[.int .i64 L, u]] w fun e w' => e = .returned (.bool true) ∧ Ext w w' := by
  obtain ⟨F, hR, hF⟩ := shift_arg A
  clear A
  obtain ⟨pa, ca, rfl⟩ := hR.slice
  have HW := Lib.hid (Ext.alloc w (.cells #[.int .i64 L, .slice pa F.length ca] 24))
  have HA := Lib.hid (And.intro hR (And.intro hF hm))
  clear hR hF hm
  have HC := Lib.hid (show ∀ w1, Ext (w.alloc (.cells #[.int .i64 L, .slice pa F.length ca] 24)) w1 → w1.cell? ⟨w.heap.size, 0, none⟩ = some (.int .i64 L) ∧ w1.cell? ⟨w.heap.size, 1, none⟩ = some (.slice pa F.length ca) from
    fun w1 hx => ⟨hx.cell_some (by simp), hx.cell_some (by simp)⟩)
  obtain ⟨l1, hl1⟩ : ∃ l, l = leftW 1048576 F := ⟨_, rfl⟩
  have hsz := fun w h => szShift_any L (.slice pa F.length ca) F 1048576 w (by omega) (by omega) h HA.out.2.1
  have hfit := fun h => leftW_fits (l := 1048576) (F := F) (by omega) h
  rw [← hl1] at hsz hfit
  have HL := Lib.hid (And.intro hsz hfit)
  clear hsz hfit hl1
  obtain ⟨r, hr⟩ : ∃ r, r = (forbO L F).getD [] := ⟨_, rfl⟩
  have hsp := fun w u h => spec_ForbiddenOf_any L u F w h HA.out.2.1
  have him := fun w u h hm => impl_ForbiddenOf_any L u F w h hm HA.out.2.1
  have hrl : r.length ≤ 1048576 := by rw [hr]; exact ForbiddenOf_small L F
  obtain ⟨m, hmd⟩ : ∃ m, m = forbL L F := ⟨_, rfl⟩
  obtain ⟨y, hyd⟩ : ∃ y, y = (forbO L F).isSome := ⟨_, rfl⟩
  rw [← hr, ← hmd, ← hyd] at hsp him
  have hyy : (y != y) = false := by cases y <;> rfl
  have HE := Lib.hid (And.intro hsp him)
  clear hsp him hr hmd hyd
  go_enter Try.func9, Try.ntmps9
  go_wp2_with fail
  with_reducible refine (HL.out.1 _ (HA.out.1.ext HW.out)).mono ?_
  rintro e w1 ⟨rfl, hx⟩
  have E := Ext.trans HW.out hx
  have z1 := Lib.hid (And.intro hx.size E.size)
  obtain ⟨a0, a1⟩ := HC.out w1 hx
  by_cases hneg : l1 < 0
  · go_wp2
    go_ret
    exact ⟨rfl, E⟩
  obtain ⟨hs0, hs1, -⟩ := HL.out.2 (by omega)
  go_wp2_with fail
  with_reducible refine (toShift_any L _ F _ (HA.out.1.ext E) hs0).mono ?_
  rintro e w2 ⟨g1, rfl, Tg1, hy⟩
  replace E := E.trans hy
  replace hx := hx.trans hy
  have z2 := Lib.hid (show w1.heap.size ≤ w2.heap.size from hy.size)
  clear hy a0 a1
  obtain ⟨a0, a1⟩ := HC.out w2 hx
  replace Tg1 := RowB.of Tg1
  go_wp2_with fail
  with_reducible refine (HE.out.1 _ _ Tg1.reads).mono ?_
  rintro e w3 ⟨v0, rfl, V0, hy⟩
  obtain ⟨p0, n0, c0, hv0⟩ := own_slice V0
  subst hv0
  replace E := E.trans hy
  replace hx := hx.trans hy
  have z3 := Lib.hid (show w2.heap.size ≤ w3.heap.size from hy.size)
  clear hy a0 a1
  obtain ⟨a0, a1⟩ := HC.out w3 hx
  clear Tg1
  replace V0 := RowB.of V0
  replace a0 := cell_old (o := (.cells #[.int .i64 m, .slice p0 n0 c0] 27)) a0
  replace a1 := cell_old (o := (.cells #[.int .i64 m, .slice p0 n0 c0] 27)) a1
  go_wp2_with fail
  with_reducible refine (toShift_any L _ F _ (HA.out.1.ext (E.trans (Ext.alloc _ _))) hs0).mono ?_
  rintro e w4 ⟨x1, rfl, Tx1, hy⟩
  have D0 : Blk w4 w3.heap.size #[.int .i64 m, .slice p0 n0 c0] := (Blk.mk' rfl : Blk (w3.alloc (.cells #[.int .i64 m, .slice p0 n0 c0] 27)) w3.heap.size _).ext hy
  have zd := Lib.hid (And.intro (show w3.heap.size < (w3.alloc (.cells #[.int .i64 m, .slice p0 n0 c0] 27)).heap.size by simp) (And.intro D0.lt hy.size))
  replace hy := (Ext.alloc w3 (.cells #[.int .i64 m, .slice p0 n0 c0] 27)).trans hy
  replace E := E.trans hy
  replace hx := hx.trans hy
  replace V0 := V0.ext hy
  have z4 := Lib.hid (show w3.heap.size ≤ w4.heap.size from hy.size)
  clear hy a0 a1
  obtain ⟨a0, a1⟩ := HC.out w4 hx
  replace Tx1 := RowB.of Tx1
  go_wp2_with fail
  with_reducible refine (HE.out.2 _ _ (Tx1.ext (Ext.alloc _ _)).reads (HA.out.2.2.ext (E.trans (Ext.alloc _ _)))).mono ?_
  rintro e w5 ⟨v1, rfl, G0, hy⟩
  obtain ⟨p1, n1, c1, hv1⟩ := own_slice G0
  subst hv1
  have b0 := hy.cell_some (show (w4.alloc (.cells #[.int .i64 L, .slice (some ⟨x1, 0, none⟩) F.length F.length] 27)).cell? ⟨w4.heap.size, 0, none⟩ = some (.int .i64 L) by simp)
  have b1 := hy.cell_some (show (w4.alloc (.cells #[.int .i64 L, .slice (some ⟨x1, 0, none⟩) F.length F.length] 27)).cell? ⟨w4.heap.size, 1, none⟩ = some (.slice (some ⟨x1, 0, none⟩) F.length F.length) by simp)
  have zb := Lib.hid (show w4.heap.size < w5.heap.size by have := hy.size; simp at this; omega)
  have zc := Lib.hid (show w4.heap.size < (w4.alloc (.cells #[.int .i64 L, .slice (some ⟨x1, 0, none⟩) F.length F.length] 27)).heap.size by simp)
  replace G0 := RowB.of G0
  replace hy := (Ext.alloc w4 (.cells #[.int .i64 L, .slice (some ⟨x1, 0, none⟩) F.length F.length] 27)).trans hy
  replace E := E.trans hy
  replace hx := hx.trans hy
  replace V0 := V0.ext hy
  replace Tx1 := Tx1.ext hy
  replace D0 := D0.ext hy
  have z5 := Lib.hid (show w4.heap.size ≤ w5.heap.size from hy.size)
  clear hy a0 a1
  obtain ⟨a0, a1⟩ := HC.out w5 hx
  have d0 := cell_old (o := (.cells #[.int .i64 m, .slice p1 n1 c1] 27)) (D0.cell 0 (.int .i64 m) rfl)
  have d1 := cell_old (o := (.cells #[.int .i64 m, .slice p1 n1 c1] 27)) (D0.cell 1 (.slice p0 n0 c0) rfl)
  go_wp2_with fail
  with_reducible refine (eqShift_same m _ _ r _ (G0.ext (Ext.alloc _ _)).reads (V0.ext (Ext.alloc _ _)).reads).mono ?_
  rintro e w6 ⟨rfl, hy⟩
  have D1 : Blk w6 w5.heap.size #[.int .i64 m, .slice p1 n1 c1] := (Blk.mk' rfl : Blk (w5.alloc (.cells #[.int .i64 m, .slice p1 n1 c1] 27)) w5.heap.size _).ext hy
  replace hy := (Ext.alloc w5 (.cells #[.int .i64 m, .slice p1 n1 c1] 27)).trans hy
  clear d0 d1
  replace b0 := hy.cell_some b0
  replace b1 := hy.cell_some b1
  replace E := E.trans hy
  replace hx := hx.trans hy
  replace V0 := V0.ext hy
  replace Tx1 := Tx1.ext hy
  replace G0 := G0.ext hy
  replace D0 := D0.ext hy
  have zf := Lib.hid D1.lt
  have z6 := Lib.hid (show w5.heap.size ≤ w6.heap.size from hy.size)
  clear hy a0 a1
  obtain ⟨a0, a1⟩ := HC.out w6 hx
  go_wp2
  refine wp_region_inv (by kernel_rfl) (.known ?hy_1_v0 :: .known ?hy_1_v1 :: .such (ShJ L F) (ShJ.ok _ _) :: .known (.bool true) :: .known ?hy_1_v4 :: []) rfl (by kernel_rfl) ?hy_1_s ?hy_1_p
  case hy_1_s =>
    intro vs
    refine ⟨fun w' hxw hj => ?_, fun w' hxw hj => ?_, fun w' hxw hj => ?_, fun w' hxw hj => ?_, fun w' hxw hj => ?_, trivial⟩
    · have a0 := Ext.cell_some hxw a0
      have a1 := Ext.cell_some hxw a1
      have b0 := Ext.cell_some hxw b0
      have b1 := Ext.cell_some hxw b1
      clear hj
      go_simp
      try go_bits
      first | rfl | (rw [if_pos (by omega), if_pos (by omega)]; go_simp; rfl) | (rw [if_pos (by omega)]; go_simp; rfl) | skip
    · have a0 := Ext.cell_some hxw a0
      have a1 := Ext.cell_some hxw a1
      have b0 := Ext.cell_some hxw b0
      have b1 := Ext.cell_some hxw b1
      clear hj
      go_simp
      try go_bits
      first | rfl | (rw [if_pos (by omega), if_pos (by omega)]; go_simp; rfl) | (rw [if_pos (by omega)]; go_simp; rfl) | skip
    · have a0 := Ext.cell_some hxw a0
      have a1 := Ext.cell_some hxw a1
      have b0 := Ext.cell_some hxw b0
      have b1 := Ext.cell_some hxw b1
      clear hj
      go_simp
      try go_bits
      exact toShJ_any L _ F _ (HA.out.1.ext (E.trans hxw)) hs0
    · have a0 := Ext.cell_some hxw a0
      have a1 := Ext.cell_some hxw a1
      have b0 := Ext.cell_some hxw b0
      have b1 := Ext.cell_some hxw b1
      obtain ⟨p3, n3, c3, e3, r3⟩ := hj 2 (by kernel_rfl)
      clear hj
      go_simp
      (try rw [e3])
      exact eqShift_same L _ _ F _ ((Tx1.ext hxw).reads) r3
    · have a0 := Ext.cell_some hxw a0
      have a1 := Ext.cell_some hxw a1
      have b0 := Ext.cell_some hxw b0
      have b1 := Ext.cell_some hxw b1
      clear hj
      go_simp
      try go_bits
      first | rfl | (rw [if_pos (by omega), if_pos (by omega)]; go_simp; rfl) | (rw [if_pos (by omega)]; go_simp; rfl) | skip
  case' hy_1_p =>
    intro vs w7 hy hk
    have k2 : (ShJ L F) (vs 2) w7 := hk 2 _ rfl
    clear hk
    replace a0 := Ext.cell_some hy a0
    replace a1 := Ext.cell_some hy a1
    replace b0 := Ext.cell_some hy b0
    replace b1 := Ext.cell_some hy b1
    replace D0 := Blk.ext D0 hy
    replace D1 := Blk.ext D1 hy
    go_simp
    clear k2
    replace E := E.trans hy
    replace hx := hx.trans hy
    replace V0 := V0.ext hy
    replace Tx1 := Tx1.ext hy
    replace G0 := G0.ext hy
    have z7 := Lib.hid (show w6.heap.size ≤ w7.heap.size from hy.size)
    clear hy
    go_wp2_with fail
    with_reducible refine (markShift_any _ L _ F 1 _ Tx1.own (by omega) (by omega)).mono ?_
    rintro e w8 ⟨rfl, hg, ho⟩
    clear ho b0 b1
    replace E := RowB.extgb E Tx1 hg (by have qd := zd.out; have qf := zf.out; have q1 := z1.out; have q2 := z2.out; have q3 := z3.out; have q4 := z4.out; have qb := zb.out; have qc := zc.out; have q5 := z5.out; have q6 := z6.out; have q7 := z7.out; omega)
    replace hx := RowB.extgb hx Tx1 hg (by have qd := zd.out; have qf := zf.out; have q1 := z1.out; have q2 := z2.out; have q3 := z3.out; have q4 := z4.out; have qb := zb.out; have qc := zc.out; have q5 := z5.out; have q6 := z6.out; have q7 := z7.out; omega)
    replace V0 := RowB.gb V0 Tx1 hg (.inl (by have qd := zd.out; have qf := zf.out; have q1 := z1.out; have q2 := z2.out; have q3 := z3.out; have q4 := z4.out; have qb := zb.out; have qc := zc.out; have q5 := z5.out; have q6 := z6.out; have q7 := z7.out; omega))
    replace G0 := RowB.gb G0 Tx1 hg (.inr (by have qd := zd.out; have qf := zf.out; have q1 := z1.out; have q2 := z2.out; have q3 := z3.out; have q4 := z4.out; have qb := zb.out; have qc := zc.out; have q5 := z5.out; have q6 := z6.out; have q7 := z7.out; omega))
    replace D0 := GB.blk hg D0 (RowB.ne_low Tx1 (by have qd := zd.out; have qf := zf.out; have q1 := z1.out; have q2 := z2.out; have q3 := z3.out; have q4 := z4.out; have qb := zb.out; have qc := zc.out; have q5 := z5.out; have q6 := z6.out; have q7 := z7.out; omega))
    replace D1 := GB.blk hg D1 (RowB.ne_high Tx1 (by have qd := zd.out; have qf := zf.out; have q1 := z1.out; have q2 := z2.out; have q3 := z3.out; have q4 := z4.out; have qb := zb.out; have qc := zc.out; have q5 := z5.out; have q6 := z6.out; have q7 := z7.out; omega))
    have z8 := Lib.hid (show w7.heap.size ≤ w8.heap.size from hg.size)
    clear hg Tx1 a0 a1
    obtain ⟨a0, a1⟩ := HC.out w8 hx
    have d0 := D0.cell 0 (.int .i64 m) rfl
    have d1 := D0.cell 1 (.slice p0 n0 c0) rfl
    have f0 := D1.cell 0 (.int .i64 m) rfl
    have f1 := D1.cell 1 (.slice p1 n1 c1) rfl
    go_wp2_with fail
    with_reducible refine (eqShift_same m _ _ r _ G0.reads V0.reads).mono ?_
    rintro e w9 ⟨rfl, hy⟩
    replace E := E.trans hy
    replace hx := hx.trans hy
    replace V0 := V0.ext hy
    replace G0 := G0.ext hy
    replace D0 := D0.ext hy
    replace D1 := D1.ext hy
    have z9 := Lib.hid (show w8.heap.size ≤ w9.heap.size from hy.size)
    clear hy a0 a1
    obtain ⟨a0, a1⟩ := HC.out w9 hx
    have f0 := D1.cell 0 (.int .i64 m) rfl
    have f1 := D1.cell 1 (.slice p1 n1 c1) rfl
    go_wp2_with fail
    with_reducible refine (markShift_any _ m _ r 1 _ G0.own (by omega) (by omega)).mono ?_
    rintro e w10 ⟨rfl, hg, ho⟩
    have hbd := G0.2
    have H0 : RowB w10 _ _ (.slice p1 n1 c1) (marksW 1 r.length) := ⟨ho, hbd⟩
    clear ho hbd
    replace E := RowB.extgb E G0 hg (by have qd := zd.out; have qf := zf.out; have q1 := z1.out; have q2 := z2.out; have q3 := z3.out; have q4 := z4.out; have qb := zb.out; have qc := zc.out; have q5 := z5.out; have q6 := z6.out; have q7 := z7.out; have q8 := z8.out; have q9 := z9.out; omega)
    replace hx := RowB.extgb hx G0 hg (by have qd := zd.out; have qf := zf.out; have q1 := z1.out; have q2 := z2.out; have q3 := z3.out; have q4 := z4.out; have qb := zb.out; have qc := zc.out; have q5 := z5.out; have q6 := z6.out; have q7 := z7.out; have q8 := z8.out; have q9 := z9.out; omega)
    replace V0 := RowB.gb V0 G0 hg (.inl (by have qd := zd.out; have qf := zf.out; have q1 := z1.out; have q2 := z2.out; have q3 := z3.out; have q4 := z4.out; have qb := zb.out; have qc := zc.out; have q5 := z5.out; have q6 := z6.out; have q7 := z7.out; have q8 := z8.out; have q9 := z9.out; omega))
    replace D0 := GB.blk hg D0 (RowB.ne_low G0 (by have qd := zd.out; have qf := zf.out; have q1 := z1.out; have q2 := z2.out; have q3 := z3.out; have q4 := z4.out; have qb := zb.out; have qc := zc.out; have q5 := z5.out; have q6 := z6.out; have q7 := z7.out; have q8 := z8.out; have q9 := z9.out; omega))
    replace D1 := GB.blk hg D1 (RowB.ne_high G0 (by have qd := zd.out; have qf := zf.out; have q1 := z1.out; have q2 := z2.out; have q3 := z3.out; have q4 := z4.out; have qb := zb.out; have qc := zc.out; have q5 := z5.out; have q6 := z6.out; have q7 := z7.out; have q8 := z8.out; have q9 := z9.out; omega))
    have z10 := Lib.hid (show w9.heap.size ≤ w10.heap.size from hg.size)
    clear hg G0 a0 a1
    obtain ⟨a0, a1⟩ := HC.out w10 hx
    have f0 := D1.cell 0 (.int .i64 m) rfl
    have f1 := D1.cell 1 (.slice p1 n1 c1) rfl
    go_wp2_with fail
    with_reducible refine (heldShift_same m _ r.length 1 _ H0.reads (by omega) (by omega)).mono ?_
    rintro e w11 ⟨rfl, hy⟩
    replace E := E.trans hy
    replace hx := hx.trans hy
    replace V0 := V0.ext hy
    replace H0 := H0.ext hy
    replace D0 := D0.ext hy
    replace D1 := D1.ext hy
    have z11 := Lib.hid (show w10.heap.size ≤ w11.heap.size from hy.size)
    clear hy a0 a1
    obtain ⟨a0, a1⟩ := HC.out w11 hx
    go_wp2_with fail
    with_reducible refine (toShift_any L _ F _ (HA.out.1.ext E) hs0).mono ?_
    rintro e w12 ⟨g2, rfl, Tg2, hy⟩
    replace E := E.trans hy
    replace hx := hx.trans hy
    replace V0 := V0.ext hy
    replace H0 := H0.ext hy
    replace D0 := D0.ext hy
    replace D1 := D1.ext hy
    have z12 := Lib.hid (show w11.heap.size ≤ w12.heap.size from hy.size)
    clear hy a0 a1
    obtain ⟨a0, a1⟩ := HC.out w12 hx
    replace Tg2 := RowB.of Tg2
    go_wp2_with fail
    with_reducible refine (HE.out.2 _ _ Tg2.reads (HA.out.2.2.ext E)).mono ?_
    rintro e w13 ⟨v2, rfl, G1, hy⟩
    obtain ⟨p2, n2, c2, hv2⟩ := own_slice G1
    subst hv2
    clear Tg2
    replace E := E.trans hy
    replace hx := hx.trans hy
    replace V0 := V0.ext hy
    replace H0 := H0.ext hy
    replace D0 := D0.ext hy
    replace D1 := D1.ext hy
    have z13 := Lib.hid (show w12.heap.size ≤ w13.heap.size from hy.size)
    clear hy a0 a1
    obtain ⟨a0, a1⟩ := HC.out w13 hx
    replace G1 := RowB.of G1
    have d0 := cell_old (o := (.cells #[.int .i64 m, .slice p2 n2 c2] 27)) (D0.cell 0 (.int .i64 m) rfl)
    have d1 := cell_old (o := (.cells #[.int .i64 m, .slice p2 n2 c2] 27)) (D0.cell 1 (.slice p0 n0 c0) rfl)
    go_wp2_with fail
    with_reducible refine (eqShift_same m _ _ r _ (G1.ext (Ext.alloc _ _)).reads (V0.ext (Ext.alloc _ _)).reads).mono ?_
    rintro e w14 ⟨rfl, hy⟩
    replace hy := (Ext.alloc w13 (.cells #[.int .i64 m, .slice p2 n2 c2] 27)).trans hy
    replace E := E.trans hy
    replace hx := hx.trans hy
    replace V0 := V0.ext hy
    replace H0 := H0.ext hy
    replace G1 := G1.ext hy
    replace D0 := D0.ext hy
    replace D1 := D1.ext hy
    have z14 := Lib.hid (show w13.heap.size ≤ w14.heap.size from hy.size)
    clear hy a0 a1
    obtain ⟨a0, a1⟩ := HC.out w14 hx
    have f0 := D1.cell 0 (.int .i64 m) rfl
    have f1 := D1.cell 1 (.slice p1 n1 c1) rfl
    go_wp2_with fail
    with_reducible refine (heldShift_same m _ r.length 1 _ H0.reads (by omega) (by omega)).mono ?_
    rintro e w15 ⟨rfl, hy⟩
    replace E := E.trans hy
    replace hx := hx.trans hy
    replace V0 := V0.ext hy
    replace H0 := H0.ext hy
    replace G1 := G1.ext hy
    replace D0 := D0.ext hy
    replace D1 := D1.ext hy
    have z15 := Lib.hid (show w14.heap.size ≤ w15.heap.size from hy.size)
    clear hy a0 a1
    obtain ⟨a0, a1⟩ := HC.out w15 hx
    go_wp2
    go_ret
    exact ⟨rfl, E⟩

set_option maxRecDepth 100000 in
set_option linter.unusedVariables false in
theorem fnExactForbiddenOf_lifted (os : Os) (started : os.Started) (H : Type) (enc : TypeId × Value → H) :
    ReturnsInHanded {} Try.checked os 9 .any (Rows.fnExactForbiddenOfSpec.pre6 enc Try.prog Try.f9 Rows.fnExactForbiddenOfRow.domain false) (Rows.fnExactForbiddenOfSpec.post enc Try.prog Try.f9 false true false false) := by
  refine returnsInHanded_of_change_shaped (C := Try.checked) own started (by kernel_rfl) Try.func9
    (ChangeSpec.witness6 (enc := enc) (C := Try.checked) false ⟨#[], #[.agg #[.int .i64 0, .slice none 0 0]], []⟩ 8 (by kernel_rfl) (by kernel_rfl) (by kernel_rfl) (by kernel_rfl)) ?_
  intro W base args ds gs before hval0 hW hcnd _ hsh _
  have hval : ∀ (j : Nat) t v, Try.f9.params[j]? = some t → args[j]? = some v → Value.okWide Try.prog W .any base t v := hval0
  have hW' := hW
  obtain ⟨p, q, hA0, hV, rfl, hfz, hnd⟩ := hW
  have hA : DataW.TrodAll enc Try.prog W 0 (fun _ => true) true Try.f9.params.toList args.toList ds p := hA0
  rw [Try.params9] at hA hval
  obtain ⟨v0, vs0, d0, ds0, p0, q0, hargs, rfl, rfl, h0, r0⟩ := trodAll_cons hA
  obtain ⟨rfl, rfl, rfl⟩ := trodAll_nil r0
  obtain rfl : args = #[v0] := by cases args; simp_all
  obtain ⟨rfl, rfl⟩ := trodVars_none hV
  have k0 := h0
  have lt0 : ∀ x ∈ p0, x.block < W.heap.size := by obtain ⟨m, hm⟩ := k0; exact DataW.trod_lt m _ _ _ hm
  obtain ⟨x0, u0, xs0, rfl, wx0, rd0⟩ := shift_of_trod Try.underlying24 Try.underlying3 Try.underlying22 Try.underlying9 (by kernel_rfl) (by kernel_rfl) (by kernel_rfl) (hval 0 24 v0 rfl rfl) h0
  clear hA0 hval0
  refine (exactForbiddenOf_any x0 u0 xs0 W wx0 rd0 (MaxC.of hsh)).mono fun e W' ⟨he, bel⟩ => ?_
  subst he
  exact ⟨_, rfl, _, _, _, [], _, [], hW', trodAll_mk1 (shut_bool Try.underlying4 _), (trodAll_cons_mk (Below.trod laidOut (by kernel_rfl) (of_decide_eq_true (by kernel_rfl)) k0 bel lt0) trodAll_mk0), rfl, Below.frame bel _, fun h => by cases h⟩

theorem fnExactForbiddenOf_holds : Rows.FnExactForbiddenOfSaid :=
  OpenClaim.holds_of_wide 9 Try.f9 rfl rfl rfl rfl rfl rfl rfl ⟨rfl, rfl, rfl, rfl, rfl⟩ rfl rfl rfl rfl rfl (by kernel_rfl) Try.func9 (by show joinedFacts Try.prog 9 Try.f9 Rows.fnExactForbiddenOfSpec Rows.fnExactForbiddenOfRow = true; unfold joinedFacts; rw [mayEnter_it, liftsFinal_it, make_it]; kernel_rfl)
    (of_decide_eq_true (by kernel_rfl)) (by unfold Func.isWrapper; first | (rw [if_pos (by decide +kernel)]; kernel_rfl) | (rw [if_neg (by decide +kernel)]; exact ⟨rfl, rfl⟩))
    (fun os started H enc _ => fnExactForbiddenOf_lifted os started H enc)
end Go.Proofs.Ytgbbidlbdjbilaa

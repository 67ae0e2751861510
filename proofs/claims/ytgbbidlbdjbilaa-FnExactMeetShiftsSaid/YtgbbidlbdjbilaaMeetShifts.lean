/- For all arguments the law FnExactMeetShifts returns true. No conditions. -/
import Derived.Test.YtgbbidlbdjbilaaLawU
import Derived.Test.YtgbbidlbdjbilaaMeetC
namespace Go.Proofs.Ytgbbidlbdjbilaa
open Go.ChangeShapes Go.WideShapes Go.ChangeAt Go.RowKit Go.Cm

theorem RowB.ne_low {w : World} {B C b : Nat} {v : Value} {F : List (List UInt8)} (h : RowB w B C v F) (hb : b < B) : v.ownBlock ≠ some b := fun e => by
  have := (World.ownsRow.lt h.1 b e).1
  omega
theorem RowB.ne_high {w : World} {B C b : Nat} {v : Value} {F : List (List UInt8)} (h : RowB w B C v F) (hb : C ≤ b) : v.ownBlock ≠ some b := fun e => by
  have := h.2 b e
  omega
/-- a struct and a bool, as results -/
def TRow (m : Int) (y : Bool) (B : Nat) (r : List (List UInt8)) (v : Value) (w : World) : Prop := ∃ a n c, v = .tuple #[.agg #[.int .i64 m, .slice a n c], .bool y] ∧ Own w B 9 (.slice a n c) (scells r)
theorem TRow.ok (m : Int) (y : Bool) (B : Nat) (r : List (List UInt8)) : ∀ v w w', Ext w w' → TRow m y B r v w → TRow m y B r v w' := fun _ _ _ hx ⟨a, n, c, h1, h2⟩ => ⟨a, n, c, h1, h2.ext hx⟩
theorem TRow.elim {m : Int} {y : Bool} {B : Nat} {r : List (List UInt8)} {v : Value} {w : World} {C : Prop} (h : TRow m y B r v w) (k : ∀ a n c, v = .tuple #[.agg #[.int .i64 m, .slice a n c], .bool y] → Own w B 9 (.slice a n c) (scells r) → C) : C := by
  obtain ⟨a, n, c, h1, h2⟩ := h
  exact k a n c h1 h2
theorem twoT {f : FuncId} {L L' m : Int} {y : Bool} {F G r : List (List UInt8)} {B : Nat} {cs : Array Value} {v v' : Value} {w0 w : World}
    (hsp : ∀ u u' w, ReadsW w u F → ReadsW w u' G → Calls Try.prog f #[.agg #[.int .i64 L, u], .agg #[.int .i64 L', u']] w fun e w' => ∃ z, e = .returned (.tuple #[.agg #[.int .i64 m, z], .bool y]) ∧ Own w' w.heap.size 9 z (scells r) ∧ Ext w w')
    (hx : Ext w0 w) (hB : B = w0.heap.size) (h1 : ShJ L F v w) (h3 : ShJ L' G v' w) :
    Calls Try.prog f #[v, v'] w fun e w' => ∃ z, e = .returned z ∧ Ext w0 w' ∧ TRow m y B r z w' ∧ ∀ b, ZBlk B 27 cs b w → ZBlk B 27 cs b w' := by
  subst hB
  obtain ⟨a1, n1, c1, rfl, r1⟩ := h1
  obtain ⟨a3, n3, c3, rfl, r3⟩ := h3
  refine (hsp _ _ w r1 r3).mono ?_
  rintro e w' ⟨z, rfl, ho, hy⟩
  obtain ⟨a, n, c, rfl⟩ := own_slice ho
  exact ⟨_, rfl, hx.trans hy, ⟨a, n, c, rfl, ho.mono hx.size⟩, fun b h => ZBlk.ok _ _ _ b _ _ hy h⟩

theorem eqShiftJ {L : Int} {v v' : Value} {F : List (List UInt8)} {w : World} (h : ReadsW w v F) (h' : ShJ L F v' w) :
    Calls Try.prog 14 #[.agg #[.int .i64 L, v], v'] w fun e w' => e = .returned (.bool true) ∧ Ext w w' := by
  obtain ⟨a, n, c, rfl, r⟩ := h'
  exact eqShift_same L _ _ F _ h r
set_option maxRecDepth 100000 in
set_option maxHeartbeats 4000000 in
theorem exactMeetShifts_any (L : Int) (u : Value) (xs : List ByteArray) (L' : Int) (u' : Value) (ys : List ByteArray) (w : World)
    (_ : -9223372036854775808 ≤ L ∧ L ≤ 9223372036854775807) (A : ReadsS w u xs ∧ ∀ s ∈ xs, s.size ≤ maxLen)
    (_ : -9223372036854775808 ≤ L' ∧ L' ≤ 9223372036854775807) (A' : ReadsS w u' ys ∧ ∀ s ∈ ys, s.size ≤ maxLen) :
    Calls Try.prog 8 #[.agg #[.int .i64 L, u], .agg #[.int .i64 L', u']] w fun e w' => e = .returned (.bool true) ∧ Ext w w' := by
  obtain ⟨F, hR, hF⟩ := shift_arg A
  obtain ⟨G, hR', hG⟩ := shift_arg A'
  clear A A'
  obtain ⟨pa, ca, rfl⟩ := hR.slice
  obtain ⟨pb, cb, rfl⟩ := hR'.slice
  have HW := Lib.hid (Ext.trans (Ext.alloc w (.cells #[.int .i64 L, .slice pa F.length ca] 24)) (Ext.alloc _ (.cells #[.int .i64 L', .slice pb G.length cb] 24)))
  have HA := Lib.hid (And.intro hR (And.intro hR' (And.intro hF hG)))
  clear hR hR' hF hG
  have b1 : Blk ((w.alloc (.cells #[.int .i64 L, .slice pa F.length ca] 24)).alloc (.cells #[.int .i64 L', .slice pb G.length cb] 24)) w.heap.size #[.int .i64 L, .slice pa F.length ca] := by (repeat (first | (refine Blk.mk' ?_; (simp; done)) | apply Blk.old))
  have b2 : Blk ((w.alloc (.cells #[.int .i64 L, .slice pa F.length ca] 24)).alloc (.cells #[.int .i64 L', .slice pb G.length cb] 24)) (w.heap.size + 1) #[.int .i64 L', .slice pb G.length cb] := by (repeat (first | (refine Blk.mk' ?_; (simp; done)) | apply Blk.old))
  have HC := Lib.hid (show ∀ w1, Ext ((w.alloc (.cells #[.int .i64 L, .slice pa F.length ca] 24)).alloc (.cells #[.int .i64 L', .slice pb G.length cb] 24)) w1 →
      (w1.cell? ⟨w.heap.size, 0, none⟩ = some (.int .i64 L) ∧ w1.cell? ⟨w.heap.size, 1, none⟩ = some (.slice pa F.length ca)) ∧ w1.cell? ⟨w.heap.size + 1, 0, none⟩ = some (.int .i64 L') ∧ w1.cell? ⟨w.heap.size + 1, 1, none⟩ = some (.slice pb G.length cb) from
    fun w1 hx => ⟨⟨(b1.ext hx).cell 0 _ rfl, (b1.ext hx).cell 1 _ rfl⟩, (b2.ext hx).cell 0 _ rfl, (b2.ext hx).cell 1 _ rfl⟩)
  clear b1 b2
  obtain ⟨l1, hl1⟩ : ∃ l, l = leftW 1048576 F := ⟨_, rfl⟩
  have hsz := fun w h => szShift_any L (.slice pa F.length ca) F 1048576 w (by omega) (by omega) h HA.out.2.2.1
  have hfit := fun h => leftW_fits (l := 1048576) (F := F) (by omega) h
  rw [← hl1] at hsz hfit
  have HL := Lib.hid (And.intro hsz hfit)
  clear hsz hfit hl1
  obtain ⟨r, hr⟩ : ∃ r, r = (meetO L F L' G).getD [] := ⟨_, rfl⟩
  have hsp := fun u u' w h h' => spec_MeetShifts_any L L' u u' F G w h h' HA.out.2.2.1 HA.out.2.2.2
  have him := fun u u' w h h' => impl_MeetShifts_any L L' u u' F G w h h' HA.out.2.2.1 HA.out.2.2.2
  have hrl : r.length ≤ 8 := by rw [hr]; exact meetO_small L L' F G
  obtain ⟨m, hmd⟩ : ∃ m, m = meetL L F L' G := ⟨_, rfl⟩
  obtain ⟨y, hyd⟩ : ∃ y, y = (meetO L F L' G).isSome := ⟨_, rfl⟩
  rw [← hr, ← hmd, ← hyd] at hsp him
  have hyy : (y != y) = false := by cases y <;> rfl
  have HE := Lib.hid (And.intro hsp him)
  clear hsp him hr hmd hyd
  go_enter Try.func8, Try.ntmps8
  go_wp2_with fail
  with_reducible refine (HL.out.1 _ (HA.out.1.ext HW.out)).mono ?_
  rintro e w1 ⟨rfl, hx⟩
  have E := Ext.trans HW.out hx
  obtain ⟨⟨a0, a1⟩, c0, c1⟩ := HC.out w1 hx
  by_cases hneg : l1 < 0
  · go_wp2
    go_ret
    exact ⟨rfl, E⟩
  obtain ⟨hs0, hs1, hl1⟩ := HL.out.2 (by omega)
  obtain ⟨l2, hl2⟩ : ∃ l, l = leftW l1 G := ⟨_, rfl⟩
  have hsz := fun w h => szShift_any L' (.slice pb G.length cb) G l1 w (by omega) hl1 h HA.out.2.2.2
  have hfit := fun h => leftW_fits (l := l1) (F := G) hl1 h
  rw [← hl2] at hsz hfit
  have HL2 := Lib.hid (And.intro hsz hfit)
  clear hsz hfit hl2
  go_wp2_with fail
  with_reducible refine (HL2.out.1 _ (HA.out.2.1.ext E)).mono ?_
  rintro e w2 ⟨rfl, hy⟩
  replace E := Ext.trans E hy
  replace hx := Ext.trans hx hy
  clear a0 a1 c0 c1 hy
  obtain ⟨⟨a0, a1⟩, c0, c1⟩ := HC.out w2 hx
  by_cases hneg2 : l2 < 0
  · go_wp2
    go_ret
    exact ⟨rfl, E⟩
  obtain ⟨ht0, ht1, -⟩ := HL2.out.2 (by omega)
  have E2 := E.size
  have H2 := Lib.hid (And.intro E.size hx.size)
  clear E2
  go_wp2
  refine wp_region_make (by kernel_rfl) 4 8 9 (TRow m y w2.heap.size r) (ZBlk w2.heap.size 27 #[.int .i64 0, .slice none 0 0]) (XVar m w2.heap.size r) (.known ?hy_1_v0 :: .such (ShJ L F) (ShJ.ok _ _) :: .known ?hy_1_v2 :: .such (ShJ L' G) (ShJ.ok _ _) :: .any :: .such (TRow m y w2.heap.size r) (TRow.ok _ _ _ _) :: .such (BRow m w2.heap.size r) (BRow.ok _ _ _) :: .known (.bool y) :: .any :: .any :: .known ?hy_1_v10 :: []) rfl (by kernel_rfl) (by kernel_rfl) (by kernel_rfl) (by decide) (by decide) (TRow.ok _ _ _ _) (ZBlk.ok _ _ _) (XVar.ok _ _ _) rfl rfl rfl ?hy_1_s ?hy_1_p
  case hy_1_s =>
    intro vs
    refine ⟨fun w' hxw hk hj hMv b hz => ?_, fun w' hxw hk hj hMv b hz => ?_, fun w' hxw hk hj hMv b hz => ?_, fun w' hxw hk hj hMv b hz => ?_, fun w' hxw hk hj hMv b hz => ?_, fun w' hxw hk hj hMv b hz => ?_, fun w' hxw hk hj hMv b hz => ?_, fun w' hxw hk hj hMv b hz => ?_, fun w' hxw hk hj hMv b hz => ?_, fun w' hxw hk hj hMv b hz => ?_, fun w' hxw hk hj hMv b hz => ?_, trivial⟩
    · have a0 := Ext.cell_some hxw a0
      have a1 := Ext.cell_some hxw a1
      have c0 := Ext.cell_some hxw c0
      have c1 := Ext.cell_some hxw c1
      clear hk hj hMv hz
      go_simp
      try go_bits
      first | rfl | skip
    · have a0 := Ext.cell_some hxw a0
      have a1 := Ext.cell_some hxw a1
      have c0 := Ext.cell_some hxw c0
      have c1 := Ext.cell_some hxw c1
      clear hk hj hMv hz
      go_simp
      try go_bits
      exact toShJ_any L _ F _ (HA.out.1.ext (Ext.trans E hxw)) hs0
    · have a0 := Ext.cell_some hxw a0
      have a1 := Ext.cell_some hxw a1
      have c0 := Ext.cell_some hxw c0
      have c1 := Ext.cell_some hxw c1
      clear hk hj hMv hz
      go_simp
      try go_bits
      first | rfl | skip
    · have a0 := Ext.cell_some hxw a0
      have a1 := Ext.cell_some hxw a1
      have c0 := Ext.cell_some hxw c0
      have c1 := Ext.cell_some hxw c1
      clear hk hj hMv hz
      go_simp
      try go_bits
      exact toShJ_any L' _ G _ (HA.out.2.1.ext (Ext.trans E hxw)) ht0
    · have a0 := Ext.cell_some hxw a0
      have a1 := Ext.cell_some hxw a1
      have c0 := Ext.cell_some hxw c0
      have c1 := Ext.cell_some hxw c1
      have h1 := hj 1 (by kernel_rfl) (by kernel_rfl)
      have h3 := hj 3 (by kernel_rfl) (by kernel_rfl)
      clear hk hj hMv hz
      go_simp
      try go_bits
      exact twoT HE.out.1 hxw rfl h1 h3
    · have a0 := Ext.cell_some hxw a0
      have a1 := Ext.cell_some hxw a1
      have c0 := Ext.cell_some hxw c0
      have c1 := Ext.cell_some hxw c1
      have h4 := hMv (by kernel_rfl)
      clear hk hj hMv hz
      go_simp
      try go_bits
      skip
    · have a0 := Ext.cell_some hxw a0
      have a1 := Ext.cell_some hxw a1
      have c0 := Ext.cell_some hxw c0
      have c1 := Ext.cell_some hxw c1
      have h5 := hj 5 (by kernel_rfl) (by kernel_rfl)
      apply TRow.elim h5
      intro qa qn qc e5 o5
      clear hk hj hMv hz
      go_simp
      try go_bits
      exact BRow.of o5
    · have a0 := Ext.cell_some hxw a0
      have a1 := Ext.cell_some hxw a1
      have c0 := Ext.cell_some hxw c0
      have c1 := Ext.cell_some hxw c1
      apply TRow.elim (hk 5 (by kernel_rfl)).choose_spec
      intro qa qn qc e5 o5
      clear o5
      clear hk hj hMv hz
      go_simp
      try go_bits
      skip
    · have a0 := Ext.cell_some hxw a0
      have a1 := Ext.cell_some hxw a1
      have c0 := Ext.cell_some hxw c0
      have c1 := Ext.cell_some hxw c1
      clear hk hj hMv hz
      go_simp
      try go_bits
      exact ZBlk.new hxw.size
    · have a0 := Ext.cell_some hxw a0
      have a1 := Ext.cell_some hxw a1
      have c0 := Ext.cell_some hxw c0
      have c1 := Ext.cell_some hxw c1
      have h6 := hj 6 (by kernel_rfl) (by kernel_rfl)
      apply BRow.elim h6
      intro qa qn qc e6 o6
      have hz0 := hz rfl
      have hpt := hz0.1
      have hzb := hz0.2
      have z0 := Blk.c20 hzb.2.1
      have z1 := Blk.c21 hzb.2.1
      have f0 := hzb.2.1.frozen 0
      have f1 := hzb.2.1.frozen 1
      clear hk hj hMv hz
      go_simp
      try go_bits
      exact XVar.new hxw rfl hzb o6
    · have a0 := Ext.cell_some hxw a0
      have a1 := Ext.cell_some hxw a1
      have c0 := Ext.cell_some hxw c0
      have c1 := Ext.cell_some hxw c1
      clear hk hj hMv hz
      go_simp
      try go_bits
      first | rfl | skip
  case' hy_1_p =>
    intro vs w3 hy z hz hX
    replace a0 := Ext.cell_some hy a0
    replace a1 := Ext.cell_some hy a1
    replace c0 := Ext.cell_some hy c0
    replace c1 := Ext.cell_some hy c1
    replace E := Ext.trans E hy
    replace hx := Ext.trans hx hy
    go_simp
    clear hz
    obtain ⟨hzA, p0, n0, c00, D0, V0, -⟩ := hX
    have zA := Lib.hid (And.intro hzA (And.intro D0.lt (show w2.heap.size ≤ w3.heap.size from hy.size)))
    have zw := H2
    replace V0 := RowB.of V0
    clear hy hzA
    go_wp2_with fail
    with_reducible refine (toShift_any L _ F _ (HA.out.1.ext E) hs0).mono ?_
    rintro e w4 ⟨x1, rfl, Tx1, hy⟩
    have z3 := Lib.hid (show w3.heap.size ≤ w4.heap.size from hy.size)
    replace E := E.trans hy
    replace hx := hx.trans hy
    replace V0 := V0.ext hy
    replace D0 := D0.ext hy
    replace Tx1 := RowB.of Tx1
    clear hy
    clear a0 a1 c0 c1
    obtain ⟨⟨a0, a1⟩, c0, c1⟩ := HC.out w4 hx
    replace a0 := cell_old (o := (.cells #[.int .i64 L, .slice (some ⟨x1, 0, none⟩) F.length F.length] 27)) a0
    replace a1 := cell_old (o := (.cells #[.int .i64 L, .slice (some ⟨x1, 0, none⟩) F.length F.length] 27)) a1
    replace c0 := cell_old (o := (.cells #[.int .i64 L, .slice (some ⟨x1, 0, none⟩) F.length F.length] 27)) c0
    replace c1 := cell_old (o := (.cells #[.int .i64 L, .slice (some ⟨x1, 0, none⟩) F.length F.length] 27)) c1
    go_wp2_with fail
    with_reducible refine (toShift_any L' _ G _ (HA.out.2.1.ext (E.trans (Ext.alloc _ _))) ht0).mono ?_
    rintro e w5 ⟨x2, rfl, Tx2, hy⟩
    have BX1 : Blk w5 w4.heap.size #[.int .i64 L, .slice (some ⟨x1, 0, none⟩) F.length F.length] := (Blk.mk' rfl : Blk (w4.alloc (.cells #[.int .i64 L, .slice (some ⟨x1, 0, none⟩) F.length F.length] 27)) w4.heap.size _).ext hy
    have z4 := Lib.hid (And.intro (show w4.heap.size < (w4.alloc (.cells #[.int .i64 L, .slice (some ⟨x1, 0, none⟩) F.length F.length] 27)).heap.size by simp) hy.size)
    replace hy := (Ext.alloc w4 (.cells #[.int .i64 L, .slice (some ⟨x1, 0, none⟩) F.length F.length] 27)).trans hy
    replace E := E.trans hy
    replace hx := hx.trans hy
    replace V0 := V0.ext hy
    replace D0 := D0.ext hy
    replace Tx1 := Tx1.ext hy
    replace Tx2 := RowB.of Tx2
    clear hy
    clear a0 a1 c0 c1
    obtain ⟨⟨a0, a1⟩, c0, c1⟩ := HC.out w5 hx
    have x10 := cell_old (o := (.cells #[.int .i64 L', .slice (some ⟨x2, 0, none⟩) G.length G.length] 27)) (Blk.c20 BX1)
    have x11 := cell_old (o := (.cells #[.int .i64 L', .slice (some ⟨x2, 0, none⟩) G.length G.length] 27)) (Blk.c21 BX1)
    go_wp2_with fail
    with_reducible refine (HE.out.2 _ _ _ (Tx1.ext (Ext.alloc _ _)).reads (Tx2.ext (Ext.alloc _ _)).reads).mono ?_
    rintro e w6 ⟨v1, rfl, G0, hy⟩
    obtain ⟨p1, n1, c11, hv1⟩ := own_slice G0
    subst hv1
    have BX2 : Blk w6 w5.heap.size #[.int .i64 L', .slice (some ⟨x2, 0, none⟩) G.length G.length] := (Blk.mk' rfl : Blk (w5.alloc (.cells #[.int .i64 L', .slice (some ⟨x2, 0, none⟩) G.length G.length] 27)) w5.heap.size _).ext hy
    have z5 := Lib.hid (And.intro (show w5.heap.size < (w5.alloc (.cells #[.int .i64 L', .slice (some ⟨x2, 0, none⟩) G.length G.length] 27)).heap.size by simp) hy.size)
    replace hy := (Ext.alloc w5 (.cells #[.int .i64 L', .slice (some ⟨x2, 0, none⟩) G.length G.length] 27)).trans hy
    clear x10 x11
    replace E := E.trans hy
    replace hx := hx.trans hy
    replace V0 := V0.ext hy
    replace D0 := D0.ext hy
    replace Tx1 := Tx1.ext hy
    replace Tx2 := Tx2.ext hy
    replace BX1 := BX1.ext hy
    replace G0 := RowB.of G0
    clear hy
    clear a0 a1 c0 c1
    obtain ⟨⟨a0, a1⟩, c0, c1⟩ := HC.out w6 hx
    have d0 := cell_old (o := (.cells #[.int .i64 m, .slice p1 n1 c11] 27)) (Blk.c20 D0)
    have d1 := cell_old (o := (.cells #[.int .i64 m, .slice p1 n1 c11] 27)) (Blk.c21 D0)
    go_wp2_with fail
    with_reducible refine (eqShift_same m _ _ r _ (G0.ext (Ext.alloc _ _)).reads (V0.ext (Ext.alloc _ _)).reads).mono ?_
    rintro e w7 ⟨rfl, hy⟩
    have D1 : Blk w7 w6.heap.size #[.int .i64 m, .slice p1 n1 c11] := (Blk.mk' rfl : Blk (w6.alloc (.cells #[.int .i64 m, .slice p1 n1 c11] 27)) w6.heap.size _).ext hy
    replace hy := (Ext.alloc w6 (.cells #[.int .i64 m, .slice p1 n1 c11] 27)).trans hy
    have z6 := Lib.hid (And.intro D1.lt (show w6.heap.size ≤ w7.heap.size from hy.size))
    clear d0 d1
    replace E := E.trans hy
    replace hx := hx.trans hy
    replace V0 := V0.ext hy
    replace D0 := D0.ext hy
    replace Tx1 := Tx1.ext hy
    replace Tx2 := Tx2.ext hy
    replace BX1 := BX1.ext hy
    replace BX2 := BX2.ext hy
    replace G0 := G0.ext hy
    clear hy
    clear a0 a1 c0 c1
    obtain ⟨⟨a0, a1⟩, c0, c1⟩ := HC.out w7 hx
    have b0 := Blk.c20 BX1
    have b1 := Blk.c21 BX1
    go_wp2
    refine wp_region_inv (by kernel_rfl) (.known ?hy_2_v0 :: .known ?hy_2_v1 :: .such (ShJ L F) (ShJ.ok _ _) :: .known (.bool true) :: .known ?hy_2_v4 :: []) rfl (by kernel_rfl) ?hy_2_s ?hy_2_p
    case hy_2_s =>
      intro vs
      refine ⟨fun w' hxw hj => ?_, fun w' hxw hj => ?_, fun w' hxw hj => ?_, fun w' hxw hj => ?_, fun w' hxw hj => ?_, trivial⟩
      · have a0 := Ext.cell_some hxw a0
        have a1 := Ext.cell_some hxw a1
        have b0 := Ext.cell_some hxw b0
        have b1 := Ext.cell_some hxw b1
        have c0 := Ext.cell_some hxw c0
        have c1 := Ext.cell_some hxw c1
        clear hj
        go_simp
        try go_bits
        first | rfl | (rw [if_pos (by omega), if_pos (by omega)]; go_simp; rfl) | (rw [if_pos (by omega)]; go_simp; rfl) | skip
      · have a0 := Ext.cell_some hxw a0
        have a1 := Ext.cell_some hxw a1
        have b0 := Ext.cell_some hxw b0
        have b1 := Ext.cell_some hxw b1
        have c0 := Ext.cell_some hxw c0
        have c1 := Ext.cell_some hxw c1
        clear hj
        go_simp
        try go_bits
        first | rfl | (rw [if_pos (by omega), if_pos (by omega)]; go_simp; rfl) | (rw [if_pos (by omega)]; go_simp; rfl) | skip
      · have a0 := Ext.cell_some hxw a0
        have a1 := Ext.cell_some hxw a1
        have b0 := Ext.cell_some hxw b0
        have b1 := Ext.cell_some hxw b1
        have c0 := Ext.cell_some hxw c0
        have c1 := Ext.cell_some hxw c1
        clear hj
        go_simp
        try go_bits
        exact toShJ_any L _ F _ (HA.out.1.ext (E.trans hxw)) hs0
      · have a0 := Ext.cell_some hxw a0
        have a1 := Ext.cell_some hxw a1
        have b0 := Ext.cell_some hxw b0
        have b1 := Ext.cell_some hxw b1
        have c0 := Ext.cell_some hxw c0
        have c1 := Ext.cell_some hxw c1
        have r3 := hj 2 (by kernel_rfl)
        clear hj
        go_simp
        try go_bits
        exact eqShiftJ ((Tx1.ext hxw).reads) r3
      · have a0 := Ext.cell_some hxw a0
        have a1 := Ext.cell_some hxw a1
        have b0 := Ext.cell_some hxw b0
        have b1 := Ext.cell_some hxw b1
        have c0 := Ext.cell_some hxw c0
        have c1 := Ext.cell_some hxw c1
        clear hj
        go_simp
        try go_bits
        first | rfl | (rw [if_pos (by omega), if_pos (by omega)]; go_simp; rfl) | (rw [if_pos (by omega)]; go_simp; rfl) | skip
    case' hy_2_p =>
      intro vs w8 hy hk
      have k2 : (ShJ L F) (vs 2) w8 := hk 2 _ rfl
      clear hk
      replace a0 := Ext.cell_some hy a0
      replace a1 := Ext.cell_some hy a1
      replace b0 := Ext.cell_some hy b0
      replace b1 := Ext.cell_some hy b1
      replace c0 := Ext.cell_some hy c0
      replace c1 := Ext.cell_some hy c1
      replace D0 := Blk.ext D0 hy
      replace D1 := Blk.ext D1 hy
      replace BX1 := Blk.ext BX1 hy
      replace BX2 := Blk.ext BX2 hy
      replace E := Ext.trans E hy
      replace hx := Ext.trans hx hy
      go_simp
      clear k2 b0 b1
      replace V0 := V0.ext hy
      replace Tx1 := Tx1.ext hy
      replace Tx2 := Tx2.ext hy
      replace G0 := G0.ext hy
      have z7 := Lib.hid (show w7.heap.size ≤ w8.heap.size from hy.size)
      clear hy
      have b0 := Blk.c20 BX2
      have b1 := Blk.c21 BX2
      go_wp2
      refine wp_region_inv (by kernel_rfl) (.known ?hy_3_v0 :: .known ?hy_3_v1 :: .such (ShJ L' G) (ShJ.ok _ _) :: .known (.bool true) :: .known ?hy_3_v4 :: []) rfl (by kernel_rfl) ?hy_3_s ?hy_3_p
      case hy_3_s =>
        intro vs
        refine ⟨fun w' hxw hj => ?_, fun w' hxw hj => ?_, fun w' hxw hj => ?_, fun w' hxw hj => ?_, fun w' hxw hj => ?_, trivial⟩
        · have a0 := Ext.cell_some hxw a0
          have a1 := Ext.cell_some hxw a1
          have b0 := Ext.cell_some hxw b0
          have b1 := Ext.cell_some hxw b1
          have c0 := Ext.cell_some hxw c0
          have c1 := Ext.cell_some hxw c1
          clear hj
          go_simp
          try go_bits
          first | rfl | (rw [if_pos (by omega), if_pos (by omega)]; go_simp; rfl) | (rw [if_pos (by omega)]; go_simp; rfl) | skip
        · have a0 := Ext.cell_some hxw a0
          have a1 := Ext.cell_some hxw a1
          have b0 := Ext.cell_some hxw b0
          have b1 := Ext.cell_some hxw b1
          have c0 := Ext.cell_some hxw c0
          have c1 := Ext.cell_some hxw c1
          clear hj
          go_simp
          try go_bits
          first | rfl | (rw [if_pos (by omega), if_pos (by omega)]; go_simp; rfl) | (rw [if_pos (by omega)]; go_simp; rfl) | skip
        · have a0 := Ext.cell_some hxw a0
          have a1 := Ext.cell_some hxw a1
          have b0 := Ext.cell_some hxw b0
          have b1 := Ext.cell_some hxw b1
          have c0 := Ext.cell_some hxw c0
          have c1 := Ext.cell_some hxw c1
          clear hj
          go_simp
          try go_bits
          exact toShJ_any L' _ G _ (HA.out.2.1.ext (E.trans hxw)) ht0
        · have a0 := Ext.cell_some hxw a0
          have a1 := Ext.cell_some hxw a1
          have b0 := Ext.cell_some hxw b0
          have b1 := Ext.cell_some hxw b1
          have c0 := Ext.cell_some hxw c0
          have c1 := Ext.cell_some hxw c1
          have r3 := hj 2 (by kernel_rfl)
          clear hj
          go_simp
          try go_bits
          exact eqShiftJ ((Tx2.ext hxw).reads) r3
        · have a0 := Ext.cell_some hxw a0
          have a1 := Ext.cell_some hxw a1
          have b0 := Ext.cell_some hxw b0
          have b1 := Ext.cell_some hxw b1
          have c0 := Ext.cell_some hxw c0
          have c1 := Ext.cell_some hxw c1
          clear hj
          go_simp
          try go_bits
          first | rfl | (rw [if_pos (by omega), if_pos (by omega)]; go_simp; rfl) | (rw [if_pos (by omega)]; go_simp; rfl) | skip
      case' hy_3_p =>
        intro vs w9 hy hk
        have k2 : (ShJ L' G) (vs 2) w9 := hk 2 _ rfl
        clear hk
        replace a0 := Ext.cell_some hy a0
        replace a1 := Ext.cell_some hy a1
        replace b0 := Ext.cell_some hy b0
        replace b1 := Ext.cell_some hy b1
        replace c0 := Ext.cell_some hy c0
        replace c1 := Ext.cell_some hy c1
        replace D0 := Blk.ext D0 hy
        replace D1 := Blk.ext D1 hy
        replace BX1 := Blk.ext BX1 hy
        replace BX2 := Blk.ext BX2 hy
        replace E := Ext.trans E hy
        replace hx := Ext.trans hx hy
        go_simp
        clear k2 b0 b1
        replace V0 := V0.ext hy
        replace Tx1 := Tx1.ext hy
        replace Tx2 := Tx2.ext hy
        replace G0 := G0.ext hy
        have z8 := Lib.hid (show w8.heap.size ≤ w9.heap.size from hy.size)
        clear hy
        have b0 := Blk.c20 BX1
        have b1 := Blk.c21 BX1
        go_wp2_with fail
        with_reducible refine (markShift_any _ L _ F 1 _ Tx1.own (by omega) (by omega)).mono ?_
        rintro e w10 ⟨rfl, hg, ho⟩
        clear ho b0 b1
        replace E := RowB.extgb E Tx1 hg (by have qA := zA.out; have qw := zw.out; have q3 := z3.out; have q4 := z4.out; have q5 := z5.out; have q6 := z6.out; have q7 := z7.out; have q8 := z8.out; omega)
        replace hx := RowB.extgb hx Tx1 hg (by have qA := zA.out; have qw := zw.out; have q3 := z3.out; have q4 := z4.out; have q5 := z5.out; have q6 := z6.out; have q7 := z7.out; have q8 := z8.out; omega)
        replace V0 := RowB.gb V0 Tx1 hg (.inl (by have qA := zA.out; have qw := zw.out; have q3 := z3.out; have q4 := z4.out; have q5 := z5.out; have q6 := z6.out; have q7 := z7.out; have q8 := z8.out; omega))
        replace Tx2 := RowB.gb Tx2 Tx1 hg (.inr (by have qA := zA.out; have qw := zw.out; have q3 := z3.out; have q4 := z4.out; have q5 := z5.out; have q6 := z6.out; have q7 := z7.out; have q8 := z8.out; omega))
        replace G0 := RowB.gb G0 Tx1 hg (.inr (by have qA := zA.out; have qw := zw.out; have q3 := z3.out; have q4 := z4.out; have q5 := z5.out; have q6 := z6.out; have q7 := z7.out; have q8 := z8.out; omega))
        replace D0 := GB.blk hg D0 (RowB.ne_low Tx1 (by have qA := zA.out; have qw := zw.out; have q3 := z3.out; have q4 := z4.out; have q5 := z5.out; have q6 := z6.out; have q7 := z7.out; have q8 := z8.out; omega))
        replace D1 := GB.blk hg D1 (RowB.ne_high Tx1 (by have qA := zA.out; have qw := zw.out; have q3 := z3.out; have q4 := z4.out; have q5 := z5.out; have q6 := z6.out; have q7 := z7.out; have q8 := z8.out; omega))
        replace BX2 := GB.blk hg BX2 (RowB.ne_high Tx1 (by have qA := zA.out; have qw := zw.out; have q3 := z3.out; have q4 := z4.out; have q5 := z5.out; have q6 := z6.out; have q7 := z7.out; have q8 := z8.out; omega))
        clear hg Tx1 BX1
        clear a0 a1 c0 c1
        obtain ⟨⟨a0, a1⟩, c0, c1⟩ := HC.out w10 hx
        have b0 := Blk.c20 BX2
        have b1 := Blk.c21 BX2
        go_wp2_with fail
        with_reducible refine (markShift_any _ L' _ G _ _ Tx2.own (by omega) (by omega)).mono ?_
        rintro e w11 ⟨rfl, hg, ho⟩
        clear ho b0 b1
        replace E := RowB.extgb E Tx2 hg (by have qA := zA.out; have qw := zw.out; have q3 := z3.out; have q4 := z4.out; have q5 := z5.out; have q6 := z6.out; have q7 := z7.out; have q8 := z8.out; omega)
        replace hx := RowB.extgb hx Tx2 hg (by have qA := zA.out; have qw := zw.out; have q3 := z3.out; have q4 := z4.out; have q5 := z5.out; have q6 := z6.out; have q7 := z7.out; have q8 := z8.out; omega)
        replace V0 := RowB.gb V0 Tx2 hg (.inl (by have qA := zA.out; have qw := zw.out; have q3 := z3.out; have q4 := z4.out; have q5 := z5.out; have q6 := z6.out; have q7 := z7.out; have q8 := z8.out; omega))
        replace G0 := RowB.gb G0 Tx2 hg (.inr (by have qA := zA.out; have qw := zw.out; have q3 := z3.out; have q4 := z4.out; have q5 := z5.out; have q6 := z6.out; have q7 := z7.out; have q8 := z8.out; omega))
        replace D0 := GB.blk hg D0 (RowB.ne_low Tx2 (by have qA := zA.out; have qw := zw.out; have q3 := z3.out; have q4 := z4.out; have q5 := z5.out; have q6 := z6.out; have q7 := z7.out; have q8 := z8.out; omega))
        replace D1 := GB.blk hg D1 (RowB.ne_high Tx2 (by have qA := zA.out; have qw := zw.out; have q3 := z3.out; have q4 := z4.out; have q5 := z5.out; have q6 := z6.out; have q7 := z7.out; have q8 := z8.out; omega))
        clear hg Tx2 BX2
        clear a0 a1 c0 c1
        obtain ⟨⟨a0, a1⟩, c0, c1⟩ := HC.out w11 hx
        have d0 := Blk.c20 D0
        have d1 := Blk.c21 D0
        have f0 := Blk.c20 D1
        have f1 := Blk.c21 D1
        go_wp2_with fail
        with_reducible refine (eqShift_same m _ _ r _ G0.reads V0.reads).mono ?_
        rintro e w12 ⟨rfl, hy⟩
        clear d0 d1 f0 f1
        replace E := E.trans hy
        replace hx := hx.trans hy
        replace V0 := V0.ext hy
        replace G0 := G0.ext hy
        replace D0 := D0.ext hy
        replace D1 := D1.ext hy
        clear hy
        clear a0 a1 c0 c1
        obtain ⟨⟨a0, a1⟩, c0, c1⟩ := HC.out w12 hx
        have f0 := Blk.c20 D1
        have f1 := Blk.c21 D1
        go_wp2_with fail
        with_reducible refine (markShift_any _ m _ r 1 _ G0.own (by omega) (by omega)).mono ?_
        rintro e w13 ⟨rfl, hg, ho⟩
        have hbd := G0.2
        have H0 : RowB w13 _ _ (.slice p1 n1 c11) (marksW 1 r.length) := ⟨ho, hbd⟩
        clear ho hbd f0 f1
        replace E := RowB.extgb E G0 hg (by have qA := zA.out; have qw := zw.out; have q3 := z3.out; have q4 := z4.out; have q5 := z5.out; have q6 := z6.out; have q7 := z7.out; have q8 := z8.out; omega)
        replace hx := RowB.extgb hx G0 hg (by have qA := zA.out; have qw := zw.out; have q3 := z3.out; have q4 := z4.out; have q5 := z5.out; have q6 := z6.out; have q7 := z7.out; have q8 := z8.out; omega)
        replace V0 := RowB.gb V0 G0 hg (.inl (by have qA := zA.out; have qw := zw.out; have q3 := z3.out; have q4 := z4.out; have q5 := z5.out; have q6 := z6.out; have q7 := z7.out; have q8 := z8.out; omega))
        replace D0 := GB.blk hg D0 (RowB.ne_low G0 (by have qA := zA.out; have qw := zw.out; have q3 := z3.out; have q4 := z4.out; have q5 := z5.out; have q6 := z6.out; have q7 := z7.out; have q8 := z8.out; omega))
        replace D1 := GB.blk hg D1 (RowB.ne_high G0 (by have qA := zA.out; have qw := zw.out; have q3 := z3.out; have q4 := z4.out; have q5 := z5.out; have q6 := z6.out; have q7 := z7.out; have q8 := z8.out; omega))
        clear hg G0
        clear a0 a1 c0 c1
        obtain ⟨⟨a0, a1⟩, c0, c1⟩ := HC.out w13 hx
        have f0 := Blk.c20 D1
        have f1 := Blk.c21 D1
        go_wp2_with fail
        with_reducible refine (heldShift_same m _ r.length 1 _ H0.reads (by omega) (by omega)).mono ?_
        rintro e w14 ⟨rfl, hy⟩
        clear f0 f1
        replace E := E.trans hy
        replace hx := hx.trans hy
        replace V0 := V0.ext hy
        replace H0 := H0.ext hy
        replace D0 := D0.ext hy
        replace D1 := D1.ext hy
        clear hy
        clear a0 a1 c0 c1
        obtain ⟨⟨a0, a1⟩, c0, c1⟩ := HC.out w14 hx
        go_wp2
        refine wp_region_make (by kernel_rfl) 4 8 9 (TRow m y w14.heap.size r) (ZBlk w14.heap.size 27 #[.int .i64 0, .slice none 0 0]) (XVar m w14.heap.size r) (.known ?hy_4_v0 :: .such (ShJ L F) (ShJ.ok _ _) :: .known ?hy_4_v2 :: .such (ShJ L' G) (ShJ.ok _ _) :: .any :: .such (TRow m y w14.heap.size r) (TRow.ok _ _ _ _) :: .such (BRow m w14.heap.size r) (BRow.ok _ _ _) :: .known (.bool y) :: .any :: .any :: .known ?hy_4_v10 :: []) rfl (by kernel_rfl) (by kernel_rfl) (by kernel_rfl) (by decide) (by decide) (TRow.ok _ _ _ _) (ZBlk.ok _ _ _) (XVar.ok _ _ _) rfl rfl rfl ?hy_4_s ?hy_4_p
        case hy_4_s =>
          intro vs
          refine ⟨fun w' hxw hk hj hMv b hz => ?_, fun w' hxw hk hj hMv b hz => ?_, fun w' hxw hk hj hMv b hz => ?_, fun w' hxw hk hj hMv b hz => ?_, fun w' hxw hk hj hMv b hz => ?_, fun w' hxw hk hj hMv b hz => ?_, fun w' hxw hk hj hMv b hz => ?_, fun w' hxw hk hj hMv b hz => ?_, fun w' hxw hk hj hMv b hz => ?_, fun w' hxw hk hj hMv b hz => ?_, fun w' hxw hk hj hMv b hz => ?_, trivial⟩
          · have a0 := Ext.cell_some hxw a0
            have a1 := Ext.cell_some hxw a1
            have c0 := Ext.cell_some hxw c0
            have c1 := Ext.cell_some hxw c1
            clear hk hj hMv hz
            go_simp
            try go_bits
            first | rfl | skip
          · have a0 := Ext.cell_some hxw a0
            have a1 := Ext.cell_some hxw a1
            have c0 := Ext.cell_some hxw c0
            have c1 := Ext.cell_some hxw c1
            clear hk hj hMv hz
            go_simp
            try go_bits
            exact toShJ_any L _ F _ (HA.out.1.ext (Ext.trans E hxw)) hs0
          · have a0 := Ext.cell_some hxw a0
            have a1 := Ext.cell_some hxw a1
            have c0 := Ext.cell_some hxw c0
            have c1 := Ext.cell_some hxw c1
            clear hk hj hMv hz
            go_simp
            try go_bits
            first | rfl | skip
          · have a0 := Ext.cell_some hxw a0
            have a1 := Ext.cell_some hxw a1
            have c0 := Ext.cell_some hxw c0
            have c1 := Ext.cell_some hxw c1
            clear hk hj hMv hz
            go_simp
            try go_bits
            exact toShJ_any L' _ G _ (HA.out.2.1.ext (Ext.trans E hxw)) ht0
          · have a0 := Ext.cell_some hxw a0
            have a1 := Ext.cell_some hxw a1
            have c0 := Ext.cell_some hxw c0
            have c1 := Ext.cell_some hxw c1
            have h1 := hj 1 (by kernel_rfl) (by kernel_rfl)
            have h3 := hj 3 (by kernel_rfl) (by kernel_rfl)
            clear hk hj hMv hz
            go_simp
            try go_bits
            exact twoT HE.out.2 hxw rfl h1 h3
          · have a0 := Ext.cell_some hxw a0
            have a1 := Ext.cell_some hxw a1
            have c0 := Ext.cell_some hxw c0
            have c1 := Ext.cell_some hxw c1
            have h4 := hMv (by kernel_rfl)
            clear hk hj hMv hz
            go_simp
            try go_bits
            skip
          · have a0 := Ext.cell_some hxw a0
            have a1 := Ext.cell_some hxw a1
            have c0 := Ext.cell_some hxw c0
            have c1 := Ext.cell_some hxw c1
            have h5 := hj 5 (by kernel_rfl) (by kernel_rfl)
            apply TRow.elim h5
            intro qa qn qc e5 o5
            clear hk hj hMv hz
            go_simp
            try go_bits
            exact BRow.of o5
          · have a0 := Ext.cell_some hxw a0
            have a1 := Ext.cell_some hxw a1
            have c0 := Ext.cell_some hxw c0
            have c1 := Ext.cell_some hxw c1
            apply TRow.elim (hk 5 (by kernel_rfl)).choose_spec
            intro qa qn qc e5 o5
            clear o5
            clear hk hj hMv hz
            go_simp
            try go_bits
            skip
          · have a0 := Ext.cell_some hxw a0
            have a1 := Ext.cell_some hxw a1
            have c0 := Ext.cell_some hxw c0
            have c1 := Ext.cell_some hxw c1
            clear hk hj hMv hz
            go_simp
            try go_bits
            exact ZBlk.new hxw.size
          · have a0 := Ext.cell_some hxw a0
            have a1 := Ext.cell_some hxw a1
            have c0 := Ext.cell_some hxw c0
            have c1 := Ext.cell_some hxw c1
            have h6 := hj 6 (by kernel_rfl) (by kernel_rfl)
            apply BRow.elim h6
            intro qa qn qc e6 o6
            have hz0 := hz rfl
            have hpt := hz0.1
            have hzb := hz0.2
            have z0 := Blk.c20 hzb.2.1
            have z1 := Blk.c21 hzb.2.1
            have f0 := hzb.2.1.frozen 0
            have f1 := hzb.2.1.frozen 1
            clear hk hj hMv hz
            go_simp
            try go_bits
            exact XVar.new hxw rfl hzb o6
          · have a0 := Ext.cell_some hxw a0
            have a1 := Ext.cell_some hxw a1
            have c0 := Ext.cell_some hxw c0
            have c1 := Ext.cell_some hxw c1
            clear hk hj hMv hz
            go_simp
            try go_bits
            first | rfl | skip
        case' hy_4_p =>
          intro vs w15 hy z hz hX
          replace a0 := Ext.cell_some hy a0
          replace a1 := Ext.cell_some hy a1
          replace c0 := Ext.cell_some hy c0
          replace c1 := Ext.cell_some hy c1
          replace D0 := Blk.ext D0 hy
          replace D1 := Blk.ext D1 hy
          replace E := Ext.trans E hy
          replace hx := Ext.trans hx hy
          go_simp
          clear hz
          obtain ⟨hzA2, p2, n2, c22, D2, G1, -⟩ := hX
          replace V0 := V0.ext hy
          replace H0 := H0.ext hy
          clear hy hzA2
          have d0 := Blk.c20 D0
          have d1 := Blk.c21 D0
          have e0 := Blk.c20 D2
          have e1 := Blk.c21 D2
          replace G1 := RowB.of G1
          go_wp2_with fail
          with_reducible refine (eqShift_same m _ _ r _ G1.reads V0.reads).mono ?_
          rintro e w16 ⟨rfl, hy⟩
          clear d0 d1 e0 e1
          replace E := E.trans hy
          replace H0 := H0.ext hy
          replace D1 := D1.ext hy
          clear hy hx
          have f0 := Blk.c20 D1
          have f1 := Blk.c21 D1
          go_wp2_with fail
          with_reducible refine (heldShift_same m _ r.length 1 _ H0.reads (by omega) (by omega)).mono ?_
          rintro e w17 ⟨rfl, hy⟩
          replace E := E.trans hy
          go_wp2
          go_ret
          exact ⟨rfl, E⟩

set_option maxRecDepth 100000 in
set_option linter.unusedVariables false in
theorem fnExactMeetShifts_lifted (os : Os) (started : os.Started) (H : Type) (enc : TypeId × Value → H) :
    ReturnsInHanded {} Try.checked os 8 .any (Rows.fnExactMeetShiftsSpec.pre6 enc Try.prog Try.f8 Rows.fnExactMeetShiftsRow.domain false) (Rows.fnExactMeetShiftsSpec.post enc Try.prog Try.f8 false true false false) := by
  refine returnsInHanded_of_change (C := Try.checked) own started (by kernel_rfl) Try.func8
    (ChangeSpec.witness6 (enc := enc) (C := Try.checked) false ⟨#[], #[.agg #[.int .i64 0, .slice none 0 0], .agg #[.int .i64 0, .slice none 0 0]], []⟩ 8 (by kernel_rfl) (by kernel_rfl) (by kernel_rfl) (by kernel_rfl)) ?_
  intro W base args ds gs before hval0 hW hcnd _
  have hval : ∀ (j : Nat) t v, Try.f8.params[j]? = some t → args[j]? = some v → Value.okWide Try.prog W .any base t v := hval0
  have hW' := hW
  obtain ⟨p, q, hA0, hV, rfl, hfz, hnd⟩ := hW
  have hA : DataW.TrodAll enc Try.prog W 0 (fun _ => true) true Try.f8.params.toList args.toList ds p := hA0
  rw [Try.params8] at hA hval
  obtain ⟨v0, vs0, d0, ds0, p0, q0, hargs, rfl, rfl, h0, r0⟩ := trodAll_cons hA
  obtain ⟨v1, vs1, d1, ds1, p1, q1, rfl, rfl, rfl, h1, r1⟩ := trodAll_cons r0
  obtain ⟨rfl, rfl, rfl⟩ := trodAll_nil r1
  obtain rfl : args = #[v0, v1] := by cases args; simp_all
  obtain ⟨rfl, rfl⟩ := trodVars_none hV
  have k0 := h0
  have lt0 : ∀ x ∈ p0, x.block < W.heap.size := by obtain ⟨m, hm⟩ := k0; exact DataW.trod_lt m _ _ _ hm
  obtain ⟨x0, u0, xs0, rfl, wx0, rd0⟩ := shift_of_trod Try.underlying24 Try.underlying3 Try.underlying22 Try.underlying9 (by kernel_rfl) (by kernel_rfl) (by kernel_rfl) (hval 0 24 v0 rfl rfl) h0
  have k1 := h1
  have lt1 : ∀ x ∈ p1, x.block < W.heap.size := by obtain ⟨m, hm⟩ := k1; exact DataW.trod_lt m _ _ _ hm
  obtain ⟨x1, u1, xs1, rfl, wx1, rd1⟩ := shift_of_trod Try.underlying24 Try.underlying3 Try.underlying22 Try.underlying9 (by kernel_rfl) (by kernel_rfl) (by kernel_rfl) (hval 1 24 v1 rfl rfl) h1
  clear hA0 hval0
  refine (exactMeetShifts_any x0 u0 xs0 x1 u1 xs1 W wx0 rd0 wx1 rd1).mono fun e W' ⟨he, bel⟩ => ?_
  subst he
  exact ⟨_, rfl, _, _, _, [], _, [], hW', trodAll_mk1 (shut_bool Try.underlying4 _), (trodAll_cons_mk (Below.trod laidOut (by kernel_rfl) (of_decide_eq_true (by kernel_rfl)) k0 bel lt0) (trodAll_cons_mk (Below.trod laidOut (by kernel_rfl) (of_decide_eq_true (by kernel_rfl)) k1 bel lt1) trodAll_mk0)), rfl, Below.frame bel _, fun h => by cases h⟩

theorem fnExactMeetShifts_holds : Rows.FnExactMeetShiftsSaid :=
  OpenClaim.holds_of_wide 8 Try.f8 rfl rfl rfl rfl rfl rfl rfl ⟨rfl, rfl, rfl, rfl, rfl⟩ rfl rfl rfl rfl rfl (by kernel_rfl) Try.func8 (by show joinedFacts Try.prog 8 Try.f8 Rows.fnExactMeetShiftsSpec Rows.fnExactMeetShiftsRow = true; unfold joinedFacts; rw [mayEnter_it, liftsFinal_it, make_it]; kernel_rfl)
    (of_decide_eq_true (by kernel_rfl)) (by unfold Func.isWrapper; first | (rw [if_pos (by decide +kernel)]; kernel_rfl) | (rw [if_neg (by decide +kernel)]; exact ⟨rfl, rfl⟩))
    (fun os started H enc _ => fnExactMeetShifts_lifted os started H enc)
end Go.Proofs.Ytgbbidlbdjbilaa

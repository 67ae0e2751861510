/- For all arguments the law FnExactAreSameShift returns true. No conditions. -/
import Derived.Test.YtgbbidlbdjbilaaLawU
import Derived.Test.YtgbbidlbdjbilaaSameSh
namespace Go.Proofs.Ytgbbidlbdjbilaa
open Go.ChangeShapes Go.WideShapes Go.ChangeAt Go.RowKit Go.Cm

set_option maxRecDepth 100000 in
set_option maxHeartbeats 4000000 in
theorem exactAreSameShift_any (L : Int) (u : Value) (xs : List ByteArray) (L' : Int) (u' : Value) (ys : List ByteArray) (w : World)
    (_ : -9223372036854775808 ≤ L ∧ L ≤ 9223372036854775807) (A : ReadsS w u xs ∧ ∀ s ∈ xs, s.size ≤ maxLen)
    (_ : -9223372036854775808 ≤ L' ∧ L' ≤ 9223372036854775807) (A' : ReadsS w u' ys ∧ ∀ s ∈ ys, s.size ≤ maxLen) (hm : MaxC w) :
    Calls Try.prog 3 #[.agg #[.int .i64 L, u], .agg #[.int .i64 L', u']] w fun e w' => e = .returned (.bool true) ∧ Ext w w' := by
  obtain ⟨F, hR, hF⟩ := shift_arg A
  obtain ⟨G, hR', hG⟩ := shift_arg A'
  clear A A'
  obtain ⟨pa, ca, rfl⟩ := hR.slice
  obtain ⟨pb, cb, rfl⟩ := hR'.slice
  have HW := Lib.hid (Ext.trans (Ext.alloc w (.cells #[.int .i64 L, .slice pa F.length ca] 24)) (Ext.alloc _ (.cells #[.int .i64 L', .slice pb G.length cb] 24)))
  have HA := Lib.hid (And.intro hR (And.intro hR' (And.intro hF (And.intro hG hm))))
  clear hR hR' hF hG hm
  have b1 : Blk ((w.alloc (.cells #[.int .i64 L, .slice pa F.length ca] 24)).alloc (.cells #[.int .i64 L', .slice pb G.length cb] 24)) w.heap.size #[.int .i64 L, .slice pa F.length ca] := by (repeat (first | (refine Blk.mk' ?_; (simp; done)) | apply Blk.old))
  have b2 : Blk ((w.alloc (.cells #[.int .i64 L, .slice pa F.length ca] 24)).alloc (.cells #[.int .i64 L', .slice pb G.length cb] 24)) (w.heap.size + 1) #[.int .i64 L', .slice pb G.length cb] := by (repeat (first | (refine Blk.mk' ?_; (simp; done)) | apply Blk.old))
  have HC := Lib.hid (show ∀ w1, Ext ((w.alloc (.cells #[.int .i64 L, .slice pa F.length ca] 24)).alloc (.cells #[.int .i64 L', .slice pb G.length cb] 24)) w1 →
      (w1.cell? ⟨w.heap.size, 0, none⟩ = some (.int .i64 L) ∧ w1.cell? ⟨w.heap.size, 1, none⟩ = some (.slice pa F.length ca)) ∧ w1.cell? ⟨w.heap.size + 1, 0, none⟩ = some (.int .i64 L') ∧ w1.cell? ⟨w.heap.size + 1, 1, none⟩ = some (.slice pb G.length cb) from
    fun w1 hx => ⟨⟨(b1.ext hx).cell 0 _ rfl, (b1.ext hx).cell 1 _ rfl⟩, (b2.ext hx).cell 0 _ rfl, (b2.ext hx).cell 1 _ rfl⟩)
  clear b1 b2
  obtain ⟨l1, hl1⟩ : ∃ l, l = leftW 1048576 F := ⟨_, rfl⟩
  have hsz := fun w h => szShift_any L (.slice pa F.length ca) F 1048576 w (by omega) (by omega) h HA.out.2.2.1
  have hfit := fun h => leftW_fits (l := 1048576) (F := F) (by omega) h
  rw [← hl1] at hsz hfit
  have HL := Lib.hid (And.intro hsz hfit)
  clear hsz hfit hl1
  obtain ⟨s, hs⟩ : ∃ s, s = sameSh L F L' G := ⟨_, rfl⟩
  have hsp := fun v v' w h h' => spec_AreSameShift_any L L' v v' F G w h h' HA.out.2.2.1 HA.out.2.2.2.1
  have him := fun v v' w h h' hm => impl_AreSameShift_any L L' v v' F G w h h' hm HA.out.2.2.1 HA.out.2.2.2.1
  rw [← hs] at hsp him
  have HE := Lib.hid (And.intro hsp him)
  clear hsp him hs
  go_enter Try.func3, Try.ntmps3
  go_wp2_with fail
  with_reducible refine (HL.out.1 _ (HA.out.1.ext HW.out)).mono ?_
  rintro e w1 ⟨rfl, hx⟩
  have E := Ext.trans HW.out hx
  obtain ⟨⟨a0, a1⟩, c0, c1⟩ := HC.out w1 hx
  by_cases hneg : l1 < 0
  · go_wp2
    go_ret
    exact ⟨rfl, E⟩
  obtain ⟨hs0, hs1, hl1⟩ := HL.out.2 (by omega)
  obtain ⟨l2, hl2⟩ : ∃ l, l = leftW l1 G := ⟨_, rfl⟩
  have hsz := fun w h => szShift_any L' (.slice pb G.length cb) G l1 w (by omega) hl1 h HA.out.2.2.2.1
  have hfit := fun h => leftW_fits (l := l1) (F := G) hl1 h
  rw [← hl2] at hsz hfit
  have HL2 := Lib.hid (And.intro hsz hfit)
  clear hsz hfit hl2
  go_wp2_with fail
  with_reducible refine (HL2.out.1 _ (HA.out.2.1.ext E)).mono ?_
  rintro e w2 ⟨rfl, hy⟩
  replace E := Ext.trans E hy
  replace hx := Ext.trans hx hy
  clear a0 a1 c0 c1 hy
  obtain ⟨⟨a0, a1⟩, c0, c1⟩ := HC.out w2 hx
  by_cases hneg2 : l2 < 0
  · go_wp2
    go_ret
    exact ⟨rfl, E⟩
  obtain ⟨ht0, ht1, -⟩ := HL2.out.2 (by omega)
  go_wp2
  refine wp_region_inv (by kernel_rfl) (.known ?hy_1_v0 :: .such (ShJ L F) (ShJ.ok _ _) :: .known ?hy_1_v2 :: .such (ShJ L' G) (ShJ.ok _ _) :: .known (.bool s) :: .known ?hy_1_v5 :: []) rfl (by kernel_rfl) ?hy_1_s ?hy_1_p
  case hy_1_s =>
    intro vs
    refine ⟨fun w' hxw hj => ?_, fun w' hxw hj => ?_, fun w' hxw hj => ?_, fun w' hxw hj => ?_, fun w' hxw hj => ?_, fun w' hxw hj => ?_, trivial⟩
    · have a0 := Ext.cell_some hxw a0
      have a1 := Ext.cell_some hxw a1
      have c0 := Ext.cell_some hxw c0
      have c1 := Ext.cell_some hxw c1
      clear hj
      go_simp
      try go_bits
      first | rfl | (rw [if_pos (by omega), if_pos (by omega)]; go_simp; rfl) | (rw [if_pos (by omega)]; go_simp; rfl) | skip
    · have a0 := Ext.cell_some hxw a0
      have a1 := Ext.cell_some hxw a1
      have c0 := Ext.cell_some hxw c0
      have c1 := Ext.cell_some hxw c1
      clear hj
      go_simp
      try go_bits
      exact toShJ_any L _ F _ (HA.out.1.ext (Ext.trans E hxw)) hs0
    · have a0 := Ext.cell_some hxw a0
      have a1 := Ext.cell_some hxw a1
      have c0 := Ext.cell_some hxw c0
      have c1 := Ext.cell_some hxw c1
      clear hj
      go_simp
      try go_bits
      first | rfl | (rw [if_pos (by omega), if_pos (by omega)]; go_simp; rfl) | (rw [if_pos (by omega)]; go_simp; rfl) | skip
    · have a0 := Ext.cell_some hxw a0
      have a1 := Ext.cell_some hxw a1
      have c0 := Ext.cell_some hxw c0
      have c1 := Ext.cell_some hxw c1
      clear hj
      go_simp
      try go_bits
      exact toShJ_any L' _ G _ (HA.out.2.1.ext (Ext.trans E hxw)) ht0
    · have a0 := Ext.cell_some hxw a0
      have a1 := Ext.cell_some hxw a1
      have c0 := Ext.cell_some hxw c0
      have c1 := Ext.cell_some hxw c1
      obtain ⟨p1, n1, c1, e1, r1⟩ := hj 1 (by kernel_rfl)
      obtain ⟨p3, n3, c3, e3, r3⟩ := hj 3 (by kernel_rfl)
      clear hj
      go_simp
      (try rw [e1])
      (try rw [e3])
      exact HE.out.1 _ _ _ r1 r3
    · have a0 := Ext.cell_some hxw a0
      have a1 := Ext.cell_some hxw a1
      have c0 := Ext.cell_some hxw c0
      have c1 := Ext.cell_some hxw c1
      clear hj
      go_simp
      try go_bits
      first | rfl | (rw [if_pos (by omega), if_pos (by omega)]; go_simp; rfl) | (rw [if_pos (by omega)]; go_simp; rfl) | skip
  case' hy_1_p =>
    intro vs w3 hy hk
    have k1 : (ShJ L F) (vs 1) w3 := hk 1 _ rfl
    have k3 : (ShJ L' G) (vs 3) w3 := hk 3 _ rfl
    clear hk
    replace a0 := Ext.cell_some hy a0
    replace a1 := Ext.cell_some hy a1
    replace c0 := Ext.cell_some hy c0
    replace c1 := Ext.cell_some hy c1
    replace E := Ext.trans E hy
    replace hx := Ext.trans hx hy
    go_simp
    clear k1 k3 hy
    go_wp2_with fail
    with_reducible refine (toShift_any L _ F _ (HA.out.1.ext E) hs0).mono ?_
    rintro e w4 ⟨x1, rfl, T1, hy⟩
    replace E := Ext.trans E hy
    replace hx := Ext.trans hx hy
    clear a0 a1 c0 c1 hy
    obtain ⟨⟨a0, a1⟩, c0, c1⟩ := HC.out w4 hx
    have HT1 := Lib.hid (Own.readsW T1)
    clear T1
    have m0 := (Ext.alloc w4 (.cells #[.int .i64 L, .slice (some ⟨x1, 0, none⟩) F.length F.length] 27)).cell_some c0
    have m1 := (Ext.alloc w4 (.cells #[.int .i64 L, .slice (some ⟨x1, 0, none⟩) F.length F.length] 27)).cell_some c1
    go_wp2_with fail
    with_reducible refine (toShift_any L' _ G _ (HA.out.2.1.ext (Ext.trans E (Ext.alloc _ _))) ht0).mono ?_
    rintro e w5 ⟨x2, rfl, T2, hy⟩
    have g0 := hy.cell_some (show (w4.alloc (.cells #[.int .i64 L, .slice (some ⟨x1, 0, none⟩) F.length F.length] 27)).cell? ⟨w4.heap.size, 0, none⟩ = some (.int .i64 L) by simp)
    have g1 := hy.cell_some (show (w4.alloc (.cells #[.int .i64 L, .slice (some ⟨x1, 0, none⟩) F.length F.length] 27)).cell? ⟨w4.heap.size, 1, none⟩ = some (.slice (some ⟨x1, 0, none⟩) F.length F.length) by simp)
    have hlt5 : w4.heap.size < w5.heap.size := by have := hy.size; simp at this; omega
    replace E := Ext.trans (Ext.trans E (Ext.alloc _ _)) hy
    replace hx := Ext.trans (Ext.trans hx (Ext.alloc _ _)) hy
    have HT := Lib.hid (And.intro ((HT1.out.ext (Ext.alloc _ _)).ext hy) (Own.readsW T2))
    clear a0 a1 c0 c1 hy T2 HT1 m0 m1
    obtain ⟨⟨a0, a1⟩, c0, c1⟩ := HC.out w5 hx
    have m0 := (Ext.alloc w5 (.cells #[.int .i64 L', .slice (some ⟨x2, 0, none⟩) G.length G.length] 27)).cell_some g0
    have m1 := (Ext.alloc w5 (.cells #[.int .i64 L', .slice (some ⟨x2, 0, none⟩) G.length G.length] 27)).cell_some g1
    go_wp2_with fail
    with_reducible refine (HE.out.2 _ _ _ (HT.out.1.ext (Ext.alloc _ _)) (HT.out.2.ext (Ext.alloc _ _)) (HA.out.2.2.2.2.ext (Ext.trans E (Ext.alloc _ _)))).mono ?_
    rintro e w6 ⟨rfl, hy⟩
    have q0 := hy.cell_some (show (w5.alloc (.cells #[.int .i64 L', .slice (some ⟨x2, 0, none⟩) G.length G.length] 27)).cell? ⟨w5.heap.size, 0, none⟩ = some (.int .i64 L') by simp)
    have q1 := hy.cell_some (show (w5.alloc (.cells #[.int .i64 L', .slice (some ⟨x2, 0, none⟩) G.length G.length] 27)).cell? ⟨w5.heap.size, 1, none⟩ = some (.slice (some ⟨x2, 0, none⟩) G.length G.length) by simp)
    replace g0 := hy.cell_some m0
    replace g1 := hy.cell_some m1
    replace E := Ext.trans (Ext.trans E (Ext.alloc _ _)) hy
    replace hx := Ext.trans (Ext.trans hx (Ext.alloc _ _)) hy
    have HQ := Lib.hid (And.intro ((HT.out.1.ext (Ext.alloc _ _)).ext hy) ((HT.out.2.ext (Ext.alloc _ _)).ext hy))
    clear a0 a1 c0 c1 hy m0 m1 HT
    obtain ⟨⟨a0, a1⟩, c0, c1⟩ := HC.out w6 hx
    go_wp2
    refine wp_region_inv (by kernel_rfl) (.known ?hy_2_v0 :: .known ?hy_2_v1 :: .such (ShJ L F) (ShJ.ok _ _) :: .known (.bool true) :: .known ?hy_2_v4 :: []) rfl (by kernel_rfl) ?hy_2_s ?hy_2_p
    case hy_2_s =>
      intro vs
      refine ⟨fun w' hxw hj => ?_, fun w' hxw hj => ?_, fun w' hxw hj => ?_, fun w' hxw hj => ?_, fun w' hxw hj => ?_, trivial⟩
      · have a0 := Ext.cell_some hxw a0
        have a1 := Ext.cell_some hxw a1
        have c0 := Ext.cell_some hxw c0
        have c1 := Ext.cell_some hxw c1
        have g0 := Ext.cell_some hxw g0
        have g1 := Ext.cell_some hxw g1
        have q0 := Ext.cell_some hxw q0
        have q1 := Ext.cell_some hxw q1
        clear hj
        go_simp
        try go_bits
        first | rfl | (rw [if_pos (by omega), if_pos (by omega)]; go_simp; rfl) | (rw [if_pos (by omega)]; go_simp; rfl) | skip
      · have a0 := Ext.cell_some hxw a0
        have a1 := Ext.cell_some hxw a1
        have c0 := Ext.cell_some hxw c0
        have c1 := Ext.cell_some hxw c1
        have g0 := Ext.cell_some hxw g0
        have g1 := Ext.cell_some hxw g1
        have q0 := Ext.cell_some hxw q0
        have q1 := Ext.cell_some hxw q1
        clear hj
        go_simp
        try go_bits
        first | rfl | (rw [if_pos (by omega), if_pos (by omega)]; go_simp; rfl) | (rw [if_pos (by omega)]; go_simp; rfl) | skip
      · have a0 := Ext.cell_some hxw a0
        have a1 := Ext.cell_some hxw a1
        have c0 := Ext.cell_some hxw c0
        have c1 := Ext.cell_some hxw c1
        have g0 := Ext.cell_some hxw g0
        have g1 := Ext.cell_some hxw g1
        have q0 := Ext.cell_some hxw q0
        have q1 := Ext.cell_some hxw q1
        clear hj
        go_simp
        try go_bits
        exact toShJ_any L _ F _ (HA.out.1.ext (Ext.trans E hxw)) hs0
      · have a0 := Ext.cell_some hxw a0
        have a1 := Ext.cell_some hxw a1
        have c0 := Ext.cell_some hxw c0
        have c1 := Ext.cell_some hxw c1
        have g0 := Ext.cell_some hxw g0
        have g1 := Ext.cell_some hxw g1
        have q0 := Ext.cell_some hxw q0
        have q1 := Ext.cell_some hxw q1
        obtain ⟨p3, n3, c3, e3, r3⟩ := hj 2 (by kernel_rfl)
        clear hj
        go_simp
        (try rw [e3])
        exact eqShift_same L _ _ F _ (HQ.out.1.ext hxw) r3
      · have a0 := Ext.cell_some hxw a0
        have a1 := Ext.cell_some hxw a1
        have c0 := Ext.cell_some hxw c0
        have c1 := Ext.cell_some hxw c1
        have g0 := Ext.cell_some hxw g0
        have g1 := Ext.cell_some hxw g1
        have q0 := Ext.cell_some hxw q0
        have q1 := Ext.cell_some hxw q1
        clear hj
        go_simp
        try go_bits
        first | rfl | (rw [if_pos (by omega), if_pos (by omega)]; go_simp; rfl) | (rw [if_pos (by omega)]; go_simp; rfl) | skip
    case' hy_2_p =>
      intro vs w7 hy hk
      have k2 : (ShJ L F) (vs 2) w7 := hk 2 _ rfl
      clear hk
      replace a0 := Ext.cell_some hy a0
      replace a1 := Ext.cell_some hy a1
      replace c0 := Ext.cell_some hy c0
      replace c1 := Ext.cell_some hy c1
      replace g0 := Ext.cell_some hy g0
      replace g1 := Ext.cell_some hy g1
      replace q0 := Ext.cell_some hy q0
      replace q1 := Ext.cell_some hy q1
      replace E := Ext.trans E hy
      replace hx := Ext.trans hx hy
      go_simp
      have HQ7 := Lib.hid (HQ.out.2.ext hy)
      clear k2 hy
      go_wp2
      refine wp_region_inv (by kernel_rfl) (.known ?hy_3_v0 :: .known ?hy_3_v1 :: .such (ShJ L' G) (ShJ.ok _ _) :: .known (.bool true) :: .known ?hy_3_v4 :: []) rfl (by kernel_rfl) ?hy_3_s ?hy_3_p
      case hy_3_s =>
        intro vs
        refine ⟨fun w' hxw hj => ?_, fun w' hxw hj => ?_, fun w' hxw hj => ?_, fun w' hxw hj => ?_, fun w' hxw hj => ?_, trivial⟩
        · have a0 := Ext.cell_some hxw a0
          have a1 := Ext.cell_some hxw a1
          have c0 := Ext.cell_some hxw c0
          have c1 := Ext.cell_some hxw c1
          have q0 := Ext.cell_some hxw q0
          have q1 := Ext.cell_some hxw q1
          clear hj
          go_simp
          try go_bits
          first | rfl | (rw [if_pos (by omega), if_pos (by omega)]; go_simp; rfl) | (rw [if_pos (by omega)]; go_simp; rfl) | skip
        · have a0 := Ext.cell_some hxw a0
          have a1 := Ext.cell_some hxw a1
          have c0 := Ext.cell_some hxw c0
          have c1 := Ext.cell_some hxw c1
          have q0 := Ext.cell_some hxw q0
          have q1 := Ext.cell_some hxw q1
          clear hj
          go_simp
          try go_bits
          first | rfl | (rw [if_pos (by omega), if_pos (by omega)]; go_simp; rfl) | (rw [if_pos (by omega)]; go_simp; rfl) | skip
        · have a0 := Ext.cell_some hxw a0
          have a1 := Ext.cell_some hxw a1
          have c0 := Ext.cell_some hxw c0
          have c1 := Ext.cell_some hxw c1
          have q0 := Ext.cell_some hxw q0
          have q1 := Ext.cell_some hxw q1
          clear hj
          go_simp
          try go_bits
          exact toShJ_any L' _ G _ (HA.out.2.1.ext (Ext.trans E hxw)) ht0
        · have a0 := Ext.cell_some hxw a0
          have a1 := Ext.cell_some hxw a1
          have c0 := Ext.cell_some hxw c0
          have c1 := Ext.cell_some hxw c1
          have q0 := Ext.cell_some hxw q0
          have q1 := Ext.cell_some hxw q1
          obtain ⟨p3, n3, c3, e3, r3⟩ := hj 2 (by kernel_rfl)
          clear hj
          go_simp
          (try rw [e3])
          exact eqShift_same L' _ _ G _ (HQ7.out.ext hxw) r3
        · have a0 := Ext.cell_some hxw a0
          have a1 := Ext.cell_some hxw a1
          have c0 := Ext.cell_some hxw c0
          have c1 := Ext.cell_some hxw c1
          have q0 := Ext.cell_some hxw q0
          have q1 := Ext.cell_some hxw q1
          clear hj
          go_simp
          try go_bits
          first | rfl | (rw [if_pos (by omega), if_pos (by omega)]; go_simp; rfl) | (rw [if_pos (by omega)]; go_simp; rfl) | skip
      case' hy_3_p =>
        intro vs w8 hy hk
        have k2 : (ShJ L' G) (vs 2) w8 := hk 2 _ rfl
        clear hk
        replace a0 := Ext.cell_some hy a0
        replace a1 := Ext.cell_some hy a1
        replace c0 := Ext.cell_some hy c0
        replace c1 := Ext.cell_some hy c1
        replace q0 := Ext.cell_some hy q0
        replace q1 := Ext.cell_some hy q1
        replace E := Ext.trans E hy
        go_simp
        clear k2 hy
        go_wp2
        go_ret
        exact ⟨rfl, E⟩

set_option maxRecDepth 100000 in
set_option linter.unusedVariables false in
theorem fnExactAreSameShift_lifted (os : Os) (started : os.Started) (H : Type) (enc : TypeId × Value → H) :
    ReturnsInHanded {} Try.checked os 3 .any (Rows.fnExactAreSameShiftSpec.pre6 enc Try.prog Try.f3 Rows.fnExactAreSameShiftRow.domain false) (Rows.fnExactAreSameShiftSpec.post enc Try.prog Try.f3 false true false false) := by
  refine returnsInHanded_of_change_shaped (C := Try.checked) own started (by kernel_rfl) Try.func3
    (ChangeSpec.witness6 (enc := enc) (C := Try.checked) false ⟨#[], #[.agg #[.int .i64 0, .slice none 0 0], .agg #[.int .i64 0, .slice none 0 0]], []⟩ 8 (by kernel_rfl) (by kernel_rfl) (by kernel_rfl) (by kernel_rfl)) ?_
  intro W base args ds gs before hval0 hW hcnd _ hsh _
  have hval : ∀ (j : Nat) t v, Try.f3.params[j]? = some t → args[j]? = some v → Value.okWide Try.prog W .any base t v := hval0
  have hW' := hW
  obtain ⟨p, q, hA0, hV, rfl, hfz, hnd⟩ := hW
  have hA : DataW.TrodAll enc Try.prog W 0 (fun _ => true) true Try.f3.params.toList args.toList ds p := hA0
  rw [Try.params3] at hA hval
  obtain ⟨v0, vs0, d0, ds0, p0, q0, hargs, rfl, rfl, h0, r0⟩ := trodAll_cons hA
  obtain ⟨v1, vs1, d1, ds1, p1, q1, rfl, rfl, rfl, h1, r1⟩ := trodAll_cons r0
  obtain ⟨rfl, rfl, rfl⟩ := trodAll_nil r1
  obtain rfl : args = #[v0, v1] := by cases args; simp_all
  obtain ⟨rfl, rfl⟩ := trodVars_none hV
  have k0 := h0
  have lt0 : ∀ x ∈ p0, x.block < W.heap.size := by obtain ⟨m, hm⟩ := k0; exact DataW.trod_lt m _ _ _ hm
  obtain ⟨x0, u0, xs0, rfl, wx0, rd0⟩ := shift_of_trod Try.underlying24 Try.underlying3 Try.underlying22 Try.underlying9 (by kernel_rfl) (by kernel_rfl) (by kernel_rfl) (hval 0 24 v0 rfl rfl) h0
  have k1 := h1
  have lt1 : ∀ x ∈ p1, x.block < W.heap.size := by obtain ⟨m, hm⟩ := k1; exact DataW.trod_lt m _ _ _ hm
  obtain ⟨x1, u1, xs1, rfl, wx1, rd1⟩ := shift_of_trod Try.underlying24 Try.underlying3 Try.underlying22 Try.underlying9 (by kernel_rfl) (by kernel_rfl) (by kernel_rfl) (hval 1 24 v1 rfl rfl) h1
  clear hA0 hval0
  refine (exactAreSameShift_any x0 u0 xs0 x1 u1 xs1 W wx0 rd0 wx1 rd1 (MaxC.of hsh)).mono fun e W' ⟨he, bel⟩ => ?_
  subst he
  exact ⟨_, rfl, _, _, _, [], _, [], hW', trodAll_mk1 (shut_bool Try.underlying4 _), (trodAll_cons_mk (Below.trod laidOut (by kernel_rfl) (of_decide_eq_true (by kernel_rfl)) k0 bel lt0) (trodAll_cons_mk (Below.trod laidOut (by kernel_rfl) (of_decide_eq_true (by kernel_rfl)) k1 bel lt1) trodAll_mk0)), rfl, Below.frame bel _, fun h => by cases h⟩

theorem fnExactAreSameShift_holds : Rows.FnExactAreSameShiftSaid :=
  OpenClaim.holds_of_wide 3 Try.f3 rfl rfl rfl rfl rfl rfl rfl ⟨rfl, rfl, rfl, rfl, rfl⟩ rfl rfl rfl rfl rfl (by kernel_rfl) Try.func3 (by show joinedFacts Try.prog 3 Try.f3 Rows.fnExactAreSameShiftSpec Rows.fnExactAreSameShiftRow = true; unfold joinedFacts; rw [mayEnter_it, liftsFinal_it, make_it]; kernel_rfl)
    (of_decide_eq_true (by kernel_rfl)) (by unfold Func.isWrapper; first | (rw [if_pos (by decide +kernel)]; kernel_rfl) | (rw [if_neg (by decide +kernel)]; exact ⟨rfl, rfl⟩))
    (fun os started H enc _ => fnExactAreSameShift_lifted os started H enc)
end Go.Proofs.Ytgbbidlbdjbilaa

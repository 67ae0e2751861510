/- Contract: the meeting of two shifts, by the reference. -/
import Derived.Test.YtfiembmfkokllaaGreatMeetA
import Derived.Test.YtfiembmfkokllaaGreatPkP
namespace Go.Proofs.YtfiembmfkokllaaGreat
open Go.RowKit Go.Cm

theorem scells_meet_len {F G : List (List UInt8)} (hF : F.length ≤ 8) (hG : G.length ≤ 8) (k : Nat) : (meetR F (G.take k)).length ≤ 1000 := by
  have h1 := meetR_length (G.take k) F
  have h2 : (G.take k).length ≤ G.length := by rw [List.length_take]; omega
  omega

theorem Blk.c20 {w : World} {b : Nat} {x y : Value} (h : Blk w b #[x, y]) : w.cell? ⟨b, 0, none⟩ = some x := h.cell 0 x rfl
theorem Blk.c21 {w : World} {b : Nat} {x y : Value} (h : Blk w b #[x, y]) : w.cell? ⟨b, 1, none⟩ = some y := h.cell 1 y rfl
/-- the row behind the call; the variable holds what cz says -/
def MRow (B z : Nat) (w0 : World) (cz : Array Value) (R : List (List UInt8)) (v : Value) (w : World) : Prop :=
  ∃ g c, v = .slice (some ⟨g, 0, none⟩) R.length c ∧ Own w B 9 (.slice (some ⟨g, 0, none⟩) R.length c) (scells R) ∧ Blk w z cz ∧ Ext w0 w ∧ g ≠ z
theorem l2Put_row {B z g c n : Nat} {w0 w : World} {cz : Array Value} {R : List (List UInt8)} {x : List UInt8} (hn : n = R.length) (hown : Own w B 9 (.slice (some ⟨g, 0, none⟩) n c) (scells R)) (hb : Blk w z cz) (hx : Ext w0 w) (hB : B = w0.heap.size) (hne : g ≠ z) (hl : R.length ≤ 1000) :
    Calls Tryz.prog 48 #[.slice (some ⟨g, 0, none⟩) n c, .string (mkS x)] w fun e w' => ∃ v, e = .returned v ∧ MRow B z w0 cz (putR x R) v w' := by
  subst hn
  subst hB
  refine (spec_l2Put_any w0.heap.size g c x R w hown hx.size hl).mono ?_
  rintro e w' ⟨g', c', rfl, ho, hgb, hmv⟩
  refine ⟨_, rfl, g', c', rfl, ho, GB.blk hgb hb (by simpa using hne), hx.grown hgb (fun k hk => ?_), ?_⟩
  · injection hk with hk
    subst hk
    exact (World.ownsRow.lt hown g rfl).1
  · have := hb.lt
    rcases hmv with h | h
    · rw [h]; exact hne
    · omega
set_option maxRecDepth 100000 in
set_option maxHeartbeats 1000000 in
theorem spec_MeetShifts_any (L L' : Int) (v v' : Value) (F G : List (List UInt8)) (w : World) (h : ReadsW w v F) (h' : ReadsW w v' G) (hF : ∀ f ∈ F, f.length ≤ maxLen) (hG : ∀ f ∈ G, f.length ≤ maxLen) :
    Calls Tryz.prog 13 #[.agg #[.int .i64 L, v], .agg #[.int .i64 L', v']] w fun e w' => ∃ z, e = .returned (.tuple #[.agg #[.int .i64 (meetL L F L' G), z], .bool (meetO L F L' G).isSome]) ∧ Own w' w.heap.size 9 z (scells ((meetO L F L' G).getD [])) ∧ Ext w w' := by
  obtain ⟨pa, ca, rfl⟩ := h.slice
  obtain ⟨pb, cb, rfl⟩ := h'.slice
  have hx := ((Ext.alloc w (.cells #[.int .i64 L, .slice pa F.length ca] 26)).trans (Ext.alloc _ (.cells #[.int .i64 L', .slice pb G.length cb] 26))).trans (Ext.alloc _ (.cells #[.int .i64 0, .slice none 0 0] 26))
  have b1 : Blk (((w.alloc (.cells #[.int .i64 L, .slice pa F.length ca] 26)).alloc (.cells #[.int .i64 L', .slice pb G.length cb] 26)).alloc (.cells #[.int .i64 0, .slice none 0 0] 26)) w.heap.size #[.int .i64 L, .slice pa F.length ca] := by (repeat (first | (refine Blk.mk' ?_; (simp; done)) | apply Blk.old))
  have b2 : Blk (((w.alloc (.cells #[.int .i64 L, .slice pa F.length ca] 26)).alloc (.cells #[.int .i64 L', .slice pb G.length cb] 26)).alloc (.cells #[.int .i64 0, .slice none 0 0] 26)) (w.heap.size + 1) #[.int .i64 L', .slice pb G.length cb] := by (repeat (first | (refine Blk.mk' ?_; (simp; done)) | apply Blk.old))
  have br : Blk (((w.alloc (.cells #[.int .i64 L, .slice pa F.length ca] 26)).alloc (.cells #[.int .i64 L', .slice pb G.length cb] 26)).alloc (.cells #[.int .i64 0, .slice none 0 0] 26)) (w.heap.size + 2) #[.int .i64 0, .slice none 0 0] := by (repeat (first | (refine Blk.mk' ?_; (simp; done)) | apply Blk.old))
  have HA := Lib.hid (And.intro h (And.intro h' (And.intro hF hG)))
  clear h h' hF hG
  obtain ⟨k1, hk1⟩ : ∃ k, k = shiftOk L F := ⟨_, rfl⟩
  obtain ⟨k2, hk2⟩ : ∃ k, k = shiftOk L' G := ⟨_, rfl⟩
  have d1 := fun w h => spec_IsShift_any L (.slice pa F.length ca) F w h HA.out.2.2.1
  have d2 := fun w h => spec_IsShift_any L' (.slice pb G.length cb) G w h HA.out.2.2.2
  rw [← hk1] at d1
  rw [← hk2] at d2
  have HD := Lib.hid (And.intro d1 (And.intro d2 (And.intro hk1 hk2)))
  clear d1 d2 hk1 hk2
  have a0 := Blk.c20 b1
  have a1 := Blk.c21 b1
  have c0 := Blk.c20 b2
  have c1 := Blk.c21 b2
  cases k1
  · have HN := Lib.hid (meetO_no (L := L) (F := F) (L' := L') (G := G) (.inl HD.out.2.2.1.symm))
    go_enter Tryz.func13, Tryz.ntmps13
    go_wp2_with fail
    with_reducible refine (HD.out.1 _ (HA.out.1.ext hx)).mono ?_
    rintro e w1 ⟨rfl, hy⟩
    replace hx := hx.trans hy
    replace b1 := b1.ext hy
    replace b2 := b2.ext hy
    replace br := br.ext hy
    clear hy a0 a1 c0 c1
    have a0 := Blk.c20 b1
    have a1 := Blk.c21 b1
    have c0 := Blk.c20 b2
    have c1 := Blk.c21 b2
    have r0 := br.cell 0 (.int .i64 0) rfl
    have r1 := br.cell 1 (.slice none 0 0) rfl
    have f0 := br.frozen 0
    have f1 := br.frozen 1
    clear br b1 b2 a1 c1
    go_wp2
    refine bodyPost_ret (v := .tuple #[.agg #[.int .i64 0, .slice none 0 0], .bool false]) ?_ rfl ⟨.slice none 0 0, by unfold meetL; rw [HN.out]; rfl, by rw [HN.out]; exact Own.nil _ _ _, (hx.setCell (by simp <;> omega) _).setCell (by simp <;> omega) _⟩
    simp [results, Tryz.results13, go_sem, r0, r1]
  cases k2
  · have HN := Lib.hid (meetO_no (L := L) (F := F) (L' := L') (G := G) (.inr (.inl HD.out.2.2.2.symm)))
    go_enter Tryz.func13, Tryz.ntmps13
    go_wp2_with fail
    with_reducible refine (HD.out.1 _ (HA.out.1.ext hx)).mono ?_
    rintro e w1 ⟨rfl, hy⟩
    replace hx := hx.trans hy
    replace b1 := b1.ext hy
    replace b2 := b2.ext hy
    replace br := br.ext hy
    clear hy a0 a1 c0 c1
    have a0 := Blk.c20 b1
    have a1 := Blk.c21 b1
    have c0 := Blk.c20 b2
    have c1 := Blk.c21 b2
    go_wp2_with fail
    with_reducible refine (HD.out.2.1 _ (HA.out.2.1.ext hx)).mono ?_
    rintro e w2 ⟨rfl, hy⟩
    replace hx := hx.trans hy
    replace b1 := b1.ext hy
    replace b2 := b2.ext hy
    replace br := br.ext hy
    clear hy a0 a1 c0 c1
    have a0 := Blk.c20 b1
    have a1 := Blk.c21 b1
    have c0 := Blk.c20 b2
    have c1 := Blk.c21 b2
    have r0 := br.cell 0 (.int .i64 0) rfl
    have r1 := br.cell 1 (.slice none 0 0) rfl
    have f0 := br.frozen 0
    have f1 := br.frozen 1
    clear br b1 b2 a1 c1
    go_wp2
    refine bodyPost_ret (v := .tuple #[.agg #[.int .i64 0, .slice none 0 0], .bool false]) ?_ rfl ⟨.slice none 0 0, by unfold meetL; rw [HN.out]; rfl, by rw [HN.out]; exact Own.nil _ _ _, (hx.setCell (by simp <;> omega) _).setCell (by simp <;> omega) _⟩
    simp [results, Tryz.results13, go_sem, r0, r1]
  by_cases hL : L = L'
  rotate_left
  · have HN := Lib.hid (meetO_no (L := L) (F := F) (L' := L') (G := G) (.inr (.inr hL)))
    have hne : (L == L') = false := by simpa using hL
    have hne2 : (L != L') = true := by simpa using hL
    have hne3 : decide (L = L') = false := by simpa using hL
    go_enter Tryz.func13, Tryz.ntmps13
    go_wp2_with fail
    with_reducible refine (HD.out.1 _ (HA.out.1.ext hx)).mono ?_
    rintro e w1 ⟨rfl, hy⟩
    replace hx := hx.trans hy
    replace b1 := b1.ext hy
    replace b2 := b2.ext hy
    replace br := br.ext hy
    clear hy a0 a1 c0 c1
    have a0 := Blk.c20 b1
    have a1 := Blk.c21 b1
    have c0 := Blk.c20 b2
    have c1 := Blk.c21 b2
    go_wp2_with fail
    with_reducible refine (HD.out.2.1 _ (HA.out.2.1.ext hx)).mono ?_
    rintro e w2 ⟨rfl, hy⟩
    replace hx := hx.trans hy
    replace b1 := b1.ext hy
    replace b2 := b2.ext hy
    replace br := br.ext hy
    clear hy a0 a1 c0 c1
    have a0 := Blk.c20 b1
    have a1 := Blk.c21 b1
    have c0 := Blk.c20 b2
    have c1 := Blk.c21 b2
    have r0 := br.cell 0 (.int .i64 0) rfl
    have r1 := br.cell 1 (.slice none 0 0) rfl
    have f0 := br.frozen 0
    have f1 := br.frozen 1
    clear br b1 b2 a1 c1
    go_wp2
    refine bodyPost_ret (v := .tuple #[.agg #[.int .i64 0, .slice none 0 0], .bool false]) ?_ rfl ⟨.slice none 0 0, by unfold meetL; rw [HN.out]; rfl, by rw [HN.out]; exact Own.nil _ _ _, (hx.setCell (by simp <;> omega) _).setCell (by simp <;> omega) _⟩
    simp [results, Tryz.results13, go_sem, r0, r1]
  subst hL
  obtain ⟨K, rfl, hf⟩ := ShFit.of HD.out.2.2.1.symm
  obtain ⟨K', hKK, hg⟩ := ShFit.of HD.out.2.2.2.symm
  have hKe : K' = K := by omega
  subst hKe
  clear hKK
  have hF8 := hf.n8
  have hG8 := hg.n8
  have hyes := fun h8 => meetO_yes (L := K') (F := F) (G := G) hf.ok hg.ok h8
  have hcopy := fun w h => spec_l3Copy_any K' (.slice pa F.length ca) F w h (by omega)
  have hlen := scells_meet_len hF8 hG8
  obtain ⟨m, hm⟩ : ∃ m, m = G.length := ⟨_, rfl⟩
  rw [← hm] at HA b2 br b1 c1 hx HD a0 a1 c0 ⊢
  have hm8 : m ≤ 8 := by rw [hm]; exact hG8
  have HE := Lib.hid (And.intro hyes (And.intro hcopy (And.intro hlen hm)))
  clear hyes hcopy hlen hf hg hm
  go_enter Tryz.func13, Tryz.ntmps13
  go_wp2_with fail
  with_reducible refine (HD.out.1 _ (HA.out.1.ext hx)).mono ?_
  rintro e w1 ⟨rfl, hy⟩
  replace hx := hx.trans hy
  replace b1 := b1.ext hy
  replace b2 := b2.ext hy
  replace br := br.ext hy
  clear hy a0 a1 c0 c1
  have a0 := Blk.c20 b1
  have a1 := Blk.c21 b1
  have c0 := Blk.c20 b2
  have c1 := Blk.c21 b2
  go_wp2_with fail
  with_reducible refine (HD.out.2.1 _ (HA.out.2.1.ext hx)).mono ?_
  rintro e w2 ⟨rfl, hy⟩
  replace hx := hx.trans hy
  replace b1 := b1.ext hy
  replace b2 := b2.ext hy
  replace br := br.ext hy
  clear hy a0 a1 c0 c1
  have a0 := Blk.c20 b1
  have a1 := Blk.c21 b1
  have c0 := Blk.c20 b2
  have c1 := Blk.c21 b2
  go_wp2_with fail
  with_reducible refine (HE.out.2.1 _ (HA.out.1.ext hx)).mono ?_
  rintro e w3 ⟨g, c, rfl, hown, hy⟩
  have hsz2 := hy.size
  have hx2 := hx
  have hxc := hy.trans (Ext.alloc w3 (.cells #[.int .i64 K', .slice (some ⟨g, 0, none⟩) F.length c] 26))
  have bz : Blk (w3.alloc (.cells #[.int .i64 K', .slice (some ⟨g, 0, none⟩) F.length c] 26)) w3.heap.size #[.int .i64 K', .slice (some ⟨g, 0, none⟩) F.length c] := Blk.mk' rfl
  have hownc := hown.ext (Ext.alloc w3 (.cells #[.int .i64 K', .slice (some ⟨g, 0, none⟩) F.length c] 26))
  have hgl := (World.ownsRow.lt hown g rfl)
  have hz2 := hy.size
  have hb2 := b2.lt
  have hbr := br.lt
  have b20 := b2
  have br0 := br
  replace hx := hx.trans hy
  replace b1 := b1.ext hy
  replace b2 := b2.ext hy
  replace br := br.ext hy
  clear hy a0 a1 c0 c1
  have a0 := Blk.c20 b1
  have a1 := Blk.c21 b1
  have c0 := Blk.c20 b2
  have c1 := Blk.c21 b2
  have HB := Lib.hid (And.intro b20 (And.intro br0 (And.intro hx2 (And.intro (show w2.heap.size ≤ w3.heap.size from hz2) (show w.heap.size + 2 < w2.heap.size from hbr)))))
  have hgz : g ≠ w3.heap.size := by omega
  have HO := Lib.hid (And.intro hownc (And.intro hxc (And.intro bz hgz)))
  clear b20 br0 hx2 hz2 hb2 hbr hgl hownc hxc bz hgz hown
  go_wp2
  go_loopw [7] (fun i wr => ∃ (k n g c : Nat), k ≤ m ∧ i = .int .i64 k ∧ n = (meetR F (G.take k)).length ∧ Ext w2 wr ∧ Blk wr w3.heap.size #[.int .i64 K', .slice (some ⟨g, 0, none⟩) n c] ∧ Own wr w2.heap.size 9 (.slice (some ⟨g, 0, none⟩) n c) (scells (meetR F (G.take k))) ∧ g ≠ w3.heap.size) (fun i _ => m - (intOf i).toNat)
  case atStart => exact ⟨0, F.length, g, c, by omega, rfl, by rw [List.take_zero, meetR_nil], HO.out.2.1, HO.out.2.2.1, by rw [List.take_zero, meetR_nil]; exact HO.out.1, HO.out.2.2.2⟩
  case round =>
    obtain ⟨k, n, g, c, hk, rfl, hn, hxr, bz, hown, hgz⟩ := hrel
    obtain ⟨wm, rfl⟩ : ∃ wm : World, wm = wr := ⟨_, rfl⟩
    have c0 := Blk.c20 (HB.out.1.ext hxr)
    have c1 := Blk.c21 (HB.out.1.ext hxr)
    have z0 := Blk.c20 bz
    have z1 := Blk.c21 bz
    by_cases hlt : k < m
    · obtain ⟨b, o, rfl, hcell⟩ := (HA.out.2.1.ext (HB.out.2.2.1.trans hxr)).at k (by rw [← HE.out.2.2.2]; exact hlt)
      obtain ⟨x, hxd⟩ : ∃ x, x = G.getD k [] := ⟨_, rfl⟩
      obtain ⟨R, hR⟩ : ∃ R, R = meetR F (G.take k) := ⟨_, rfl⟩
      have hstep : meetR F (G.take (k + 1)) = putR x R := by rw [hxd, hR]; exact meetR_step F G (by rw [← HE.out.2.2.2]; exact hlt)
      have hRl := HE.out.2.2.1 k
      rw [← hxd] at hcell
      rw [← hR] at hn hown hRl
      have HP := Lib.hid (And.intro hn (And.intro hown (And.intro bz (And.intro hxr (And.intro hgz (And.intro hRl hstep))))))
      clear hn hown bz hgz hRl hstep hxd hR
      go_wp2
      refine wp_region_tail (by kernel_rfl) 7 (.known ?hx4_16_v0 :: .known ?hx4_16_v1 :: .known ?hx4_16_v2 :: .known ?hx4_16_v3 :: .known ?hx4_16_v4 :: .known ?hx4_16_v5 :: .known ?hx4_16_v6 :: []) rfl (by decide) (by kernel_rfl) (by kernel_rfl) ?hx4_16_s ?hx4_16_p
      case hx4_16_s =>
        intro vs
        refine ⟨fun w' hxw hj => ?_, fun w' hxw hj => ?_, fun w' hxw hj => ?_, fun w' hxw hj => ?_, fun w' hxw hj => ?_, fun w' hxw hj => ?_, fun w' hxw hj => ?_, trivial⟩
        · have c0 := Ext.cell_some hxw c0
          have c1 := Ext.cell_some hxw c1
          have z0 := Ext.cell_some hxw z0
          have z1 := Ext.cell_some hxw z1
          have hcell := Ext.cell_some hxw hcell
          clear hj
          go_simp
          try go_bits
          first | rfl | (rw [if_pos (by omega), if_pos (by omega)]; go_simp; rfl) | (rw [if_pos (by omega)]; go_simp; rfl) | skip
        · have c0 := Ext.cell_some hxw c0
          have c1 := Ext.cell_some hxw c1
          have z0 := Ext.cell_some hxw z0
          have z1 := Ext.cell_some hxw z1
          have hcell := Ext.cell_some hxw hcell
          clear hj
          go_simp
          try go_bits
          first | rfl | (rw [if_pos (by omega), if_pos (by omega)]; go_simp; rfl) | (rw [if_pos (by omega)]; go_simp; rfl) | skip
        · have c0 := Ext.cell_some hxw c0
          have c1 := Ext.cell_some hxw c1
          have z0 := Ext.cell_some hxw z0
          have z1 := Ext.cell_some hxw z1
          have hcell := Ext.cell_some hxw hcell
          clear hj
          go_simp
          try go_bits
          first | rfl | (rw [if_pos (by omega), if_pos (by omega)]; go_simp; rfl) | (rw [if_pos (by omega)]; go_simp; rfl) | skip
        · have c0 := Ext.cell_some hxw c0
          have c1 := Ext.cell_some hxw c1
          have z0 := Ext.cell_some hxw z0
          have z1 := Ext.cell_some hxw z1
          have hcell := Ext.cell_some hxw hcell
          clear hj
          go_simp
          try go_bits
          first | rfl | (rw [if_pos (by omega), if_pos (by omega)]; go_simp; rfl) | (rw [if_pos (by omega)]; go_simp; rfl) | skip
        · have c0 := Ext.cell_some hxw c0
          have c1 := Ext.cell_some hxw c1
          have z0 := Ext.cell_some hxw z0
          have z1 := Ext.cell_some hxw z1
          have hcell := Ext.cell_some hxw hcell
          clear hj
          go_simp
          try go_bits
          first | rfl | (rw [if_pos (by omega), if_pos (by omega)]; go_simp; rfl) | (rw [if_pos (by omega)]; go_simp; rfl) | skip
        · have c0 := Ext.cell_some hxw c0
          have c1 := Ext.cell_some hxw c1
          have z0 := Ext.cell_some hxw z0
          have z1 := Ext.cell_some hxw z1
          have hcell := Ext.cell_some hxw hcell
          clear hj
          go_simp
          try go_bits
          first | rfl | (rw [if_pos (by omega), if_pos (by omega)]; go_simp; rfl) | (rw [if_pos (by omega)]; go_simp; rfl) | skip
        · have c0 := Ext.cell_some hxw c0
          have c1 := Ext.cell_some hxw c1
          have z0 := Ext.cell_some hxw z0
          have z1 := Ext.cell_some hxw z1
          have hcell := Ext.cell_some hxw hcell
          clear hj
          go_simp
          try go_bits
          first | rfl | (rw [if_pos (by omega), if_pos (by omega)]; go_simp; rfl) | (rw [if_pos (by omega)]; go_simp; rfl) | skip
      case' hx4_16_p =>
        intro vs w4 hx4 hk
        clear hk
        replace c0 := Ext.cell_some hx4 c0
        replace c1 := Ext.cell_some hx4 c1
        replace z0 := Ext.cell_some hx4 z0
        replace z1 := Ext.cell_some hx4 z1
        replace hcell := Ext.cell_some hx4 hcell
        go_simp
        have hq := HP.out.2.1.ext hx4
        have hb4 := HP.out.2.2.1.ext hx4
        have hx5 := HP.out.2.2.2.1.trans hx4
        have HQ := Lib.hid (l2Put_row (x := x) HP.out.1 hq hb4 hx5 rfl HP.out.2.2.2.2.1 HP.out.2.2.2.2.2.1)
        clear hq hb4 hx5 c0 c1 z0 z1 hcell hx4
        go_wp2_with fail
        with_reducible refine HQ.out.mono ?_
        rintro e w5 ⟨u, rfl, g5, c5, rfl, ho5, hb5, hx5, hn5⟩
        have f1 := hb5.frozen 1
        have z1 := Blk.c21 hb5
        have HX := Lib.hid (And.intro ho5 (And.intro hb5 (And.intro hx5 hn5)))
        clear ho5 hb5 hx5 hn5
        go_wp2
        go_roundw
        case rel =>
          refine ⟨k + 1, (putR x R).length, g5, c5, by omega, by go_num, by rw [HP.out.2.2.2.2.2.2], HX.out.2.2.1.setCell HB.out.2.2.2.1 _, HX.out.2.1.set (i := 1) (by simp) _, ?_, HX.out.2.2.2⟩
          rw [HP.out.2.2.2.2.2.2]
          exact GB.own (GB.setCell (GB.refl w5 (some w3.heap.size)) 1 _) HX.out.1 (fun j hj e => HX.out.2.2.2 (by simp [Value.ownBlock] at hj; injection e with e; omega))
        case measure => simp [intOf]; omega
    · have hkm : k = m := by omega
      subst hkm
      have hR : meetR F (G.take k) = meetR F G := by rw [HE.out.2.2.2, List.take_length]
      rw [hR] at hn hown
      have br := HB.out.2.1.ext hxr
      have hx6 := HB.out.2.2.1.trans hxr
      by_cases h8 : n ≤ 8
      · have HN := Lib.hid (HE.out.1 (by rw [← hn]; exact h8))
        have r0 := Blk.c20 br
        have r1 := Blk.c21 br
        have f0 := br.frozen 0
        have f1 := br.frozen 1
        have HO2 := Lib.hid (And.intro hown (And.intro hx6 (World.ownsRow.lt hown g rfl).1))
        clear br hown hx6 hn
        go_wp2
        have h1 := GB.own (GB.setCell (GB.refl wm (some (w.heap.size + 2))) 0 (.int .i64 K')) HO2.out.1 (fun j hj e => by have h3 := HB.out.2.2.2.2; have h4 := HO2.out.2.2; simp [Value.ownBlock] at hj; injection e with e; omega)
        have h2 := GB.own (GB.setCell (GB.refl _ (some (w.heap.size + 2))) 1 (.slice (some ⟨g, 0, none⟩) n c)) h1 (fun j hj e => by have h3 := HB.out.2.2.2.2; have h4 := HO2.out.2.2; simp [Value.ownBlock] at hj; injection e with e; omega)
        refine bodyPost_ret (v := .tuple #[.agg #[.int .i64 K', .slice (some ⟨g, 0, none⟩) n c], .bool true]) ?_ rfl ⟨.slice (some ⟨g, 0, none⟩) n c, by unfold meetL; rw [HN.out]; rfl, by rw [HN.out]; exact h2.mono (Nat.le_of_lt (Nat.lt_of_le_of_lt (Nat.le_add_right _ 2) HB.out.2.2.2.2)), (HO2.out.2.1.setCell (by simp <;> omega) _).setCell (by simp <;> omega) _⟩
        simp [results, Tryz.results13, go_sem, r0, r1]
      · have HN := Lib.hid (meetO_much (L := (K' : Int)) (L' := (K' : Int)) (F := F) (G := G) (by rw [← hn]; exact h8))
        have hx := hx6
        have r0 := Blk.c20 br
        have r1 := Blk.c21 br
        have f0 := br.frozen 0
        have f1 := br.frozen 1
        clear br hown hx6 hn
        go_wp2
        refine bodyPost_ret (v := .tuple #[.agg #[.int .i64 0, .slice none 0 0], .bool false]) ?_ rfl ⟨.slice none 0 0, by unfold meetL; rw [HN.out]; rfl, by rw [HN.out]; exact Own.nil _ _ _, (hx.setCell (by simp <;> omega) _).setCell (by simp <;> omega) _⟩
        simp [results, Tryz.results13, go_sem, r0, r1]
end Go.Proofs.YtfiembmfkokllaaGreat

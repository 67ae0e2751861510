/- Contract: the least forbidden words of a shift, by the program. -/
import Derived.Test.YtfiembmfkokllaaGreatShFs
import Derived.Sort.OwnSorted
namespace Go.Proofs.YtfiembmfkokllaaGreat
open Go.RowKit Go.Cm Go.Sort

theorem own_slice {w : World} {B : Nat} {E : TypeId} {v : Value} {fs : List Value} (h : Own w B E v fs) : ∃ a n c, v = .slice a n c := by
  obtain ⟨a, c, hv, _⟩ := Own.reads h
  exact ⟨a, _, c, hv⟩
theorem sort_own (B : Nat) (v : Value) (l : List (List UInt8)) (w : World) (hown : Own w B 9 v (scells l)) (hl : l.length ≤ 1000) :
    Calls Tryz.prog 42 #[v] w fun e w' => e = .returned (.tuple #[]) ∧ Own w' B 9 v (scells (l.mergeSort fun x y => decide (x ≤ y))) ∧ w.grownBy w' v.ownBlock := by
  have hown' := hown
  unfold Own at hown'
  rw [scells_length] at hown'
  rcases hown'.2 with ⟨hv, hn⟩ | ⟨g, cap, cur, hv, hbg, hb, h1, h2, h3, h4⟩
  · have hl0 : l = [] := List.eq_nil_of_length_eq_zero hn
    subst hl0; subst hv
    exact (Tryz.slices_Sort_string_none none 0 w).mono fun e w' ⟨h1, h2⟩ => ⟨h1, by rw [h2, List.mergeSort_nil]; exact hown, by rw [h2]; exact GB.refl _ _⟩
  · subst hv
    refine (Tryz.slices_Sort_string g 0 cap l w (holds_of_block hb (by rw [Nat.mul_one] at h4; exact h4)) (Array.getElem?_eq_some_iff.1 hb).1 (by omega)).mono fun e w' ⟨h5, n, os, h6⟩ => ⟨h5, ?_, ?_⟩
    · rw [h6]
      unfold Own
      rw [scells_length, (List.mergeSort_perm l _).length_eq]
      exact ownsRow_sorted (List.mergeSort_perm l _).length_eq hbg hb h1 h2 h3
    · rw [h6]
      exact grownBy_sorted _

set_option maxRecDepth 100000 in
set_option maxHeartbeats 4000000 in
theorem impl_ForbiddenOf_any (L : Int) (v : Value) (F : List (List UInt8)) (w : World) (h : ReadsW w v F) (hm : MaxC w) (hF : ∀ f ∈ F, f.length ≤ maxLen) :
    Calls Tryz.prog 9 #[.agg #[.int .i64 L, v]] w fun e w' => ∃ z, e = .returned (.tuple #[.agg #[.int .i64 (forbL L F), z], .bool (forbO L F).isSome]) ∧ Own w' w.heap.size 9 z (scells ((forbO L F).getD [])) ∧ Ext w w' := by
  obtain ⟨pa, ca, rfl⟩ := h.slice
  have hx := (Ext.alloc w (.cells #[.int .i64 L, .slice pa F.length ca] 26)).trans (Ext.alloc _ (.cells #[.int .i64 0, .slice none 0 0] 26))
  have bo : Blk ((w.alloc (.cells #[.int .i64 L, .slice pa F.length ca] 26)).alloc (.cells #[.int .i64 0, .slice none 0 0] 26)) w.heap.size #[.int .i64 L, .slice pa F.length ca] := by (repeat (first | (refine Blk.mk' ?_; (simp; done)) | apply Blk.old))
  have br : Blk ((w.alloc (.cells #[.int .i64 L, .slice pa F.length ca] 26)).alloc (.cells #[.int .i64 0, .slice none 0 0] 26)) (w.heap.size + 1) #[.int .i64 0, .slice none 0 0] := by (repeat (first | (refine Blk.mk' ?_; (simp; done)) | apply Blk.old))
  have HS := Lib.hid (And.intro h hm)
  clear h hm
  obtain ⟨ok, hok⟩ : ∃ ok, ok = shiftOk L F := ⟨_, rfl⟩
  have hcall := fun w h => impl_IsShift_any L (.slice pa F.length ca) F w h hF
  rw [← hok] at hcall
  have HC := Lib.hid (And.intro hcall hok)
  clear hcall hok hF
  have c0 := bo.cell 0 _ rfl
  have c1 := bo.cell 1 _ rfl
  cases ok
  · have HN := Lib.hid (forbO_bad HC.out.2.symm)
    go_enter Tryz.func9, Tryz.ntmps9
    go_wp2_with fail
    with_reducible refine (HC.out.1 _ (HS.out.1.ext hx)).mono ?_
    rintro e w1 ⟨rfl, hy⟩
    replace hx := hx.trans hy
    replace bo := bo.ext hy
    replace br := br.ext hy
    clear hy c0 c1
    have c0 := bo.cell 0 _ rfl
    have c1 := bo.cell 1 _ rfl
    have r0 := br.cell 0 _ rfl
    have r1 := br.cell 1 _ rfl
    have f0 := br.frozen 0
    have f1 := br.frozen 1
    clear br bo c0 c1
    go_wp2
    refine bodyPost_ret (v := .tuple #[.agg #[.int .i64 0, .slice none 0 0], .bool false]) ?_ rfl ⟨.slice none 0 0, by unfold forbL; rw [HN.out]; rfl, by rw [HN.out]; exact Own.nil _ _ _, (hx.setCell (by simp) _).setCell (by simp) _⟩
    simp [results, Tryz.results9, go_sem, r0, r1]
  obtain ⟨K, rfl, hf⟩ := ShFit.of HC.out.2.symm
  have hK0 : 0 < K := hf.k1
  have hK3 := hf.k3
  have hF2 : ∀ f ∈ F, f.length ≤ 1048576 := fun f hm => by have := (hf.word f hm).2.2; omega
  have hps := fun w h hm => impl_states_any K (.slice pa F.length ca) F w hK0 hK3 h hm
  have hempty := fun h => forbO_empty (K := K) (F := F) h
  have hyes := fun h h8 => forbO_yes (K := K) (F := F) hf.ok h h8
  have hmuch := fun h8 => forbO_much (K := K) (F := F) h8
  have htwo : ∀ u ∈ statesL K F, u.length ≤ 1048576 := fun u hu => by rw [states_two u hu]; omega
  obtain ⟨st, hst⟩ : ∃ st, st = statesL K F := ⟨_, rfl⟩
  rw [← hst] at hps hempty hyes hmuch htwo
  have hin := fun x w z h hz hm hl => impl_has_any K (.slice pa F.length ca) z F st x w h hz hm hl htwo
  have HE := Lib.hid (And.intro trivial (And.intro hps (And.intro hempty (And.intro hyes (And.intro hmuch hin)))))
  clear hps hempty hyes hmuch htwo hin hF2 hf hst
  go_enter Tryz.func9, Tryz.ntmps9
  go_wp2_with fail
  with_reducible refine (HC.out.1 _ (HS.out.1.ext hx)).mono ?_
  rintro e w1 ⟨rfl, hy⟩
  replace hx := hx.trans hy
  replace bo := bo.ext hy
  replace br := br.ext hy
  clear hy c0 c1
  have c0 := bo.cell 0 _ rfl
  have c1 := bo.cell 1 _ rfl
  go_wp2_with fail
  with_reducible refine (HE.out.2.1 _ (HS.out.1.ext hx) (HS.out.2.ext hx)).mono ?_
  rintro e w3 ⟨z, rfl, hz, hy⟩
  replace hx := hx.trans hy
  replace bo := bo.ext hy
  replace br := br.ext hy
  clear hy c0 c1
  have c0 := bo.cell 0 _ rfl
  have c1 := bo.cell 1 _ rfl
  obtain ⟨pz, cz, rfl⟩ := (Own.readsW hz).slice
  have HZ := Lib.hid (And.intro (Own.readsW hz) (And.intro (HS.out.1.ext hx) (HS.out.2.ext hx)))
  clear hz
  by_cases hs0 : st.length = 0
  · have HN := Lib.hid (HE.out.2.2.1 hs0)
    have hsz : ((st.length : Int) == 0) = true := by rw [hs0]; rfl
    have r0 := br.cell 0 _ rfl
    have r1 := br.cell 1 _ rfl
    have f0 := br.frozen 0
    have f1 := br.frozen 1
    clear br bo c0 c1
    go_wp2
    refine bodyPost_ret (v := .tuple #[.agg #[.int .i64 0, .slice none 0 0], .bool false]) ?_ rfl ⟨.slice none 0 0, by unfold forbL; rw [HN.out]; rfl, by rw [HN.out]; exact Own.nil _ _ _, (hx.setCell (by simp) _).setCell (by simp) _⟩
    simp [results, Tryz.results9, go_sem, r0, r1]
  have hsz : ((st.length : Int) == 0) = false := by
    simp
    exact fun e => hs0 (by rw [e]; rfl)
  have HY := Lib.hid (HE.out.2.2.2.1 hs0)
  clear hs0
  have hBx := Ext.alloc w3 (.cells #[.int .i64 K, .slice none 0 0] 26)
  have b5 : Blk (w3.alloc (.cells #[.int .i64 K, .slice none 0 0] 26)) w3.heap.size #[.int .i64 K, .slice none 0 0] := by (repeat (first | (refine Blk.mk' ?_; (simp; done)) | apply Blk.old))
  have HB := Lib.hid (And.intro trivial (And.intro trivial (And.intro br bo)))
  have hB0 : Own (w3.alloc (.cells #[.int .i64 K, .slice none 0 0] 26)) w3.heap.size 9 (.slice none 0 0) (scells (candTo K F st 1 0)) := by
    rw [candTo_start]
    exact Own.nil _ _ _
  clear br bo
  go_wp2
  go_loopw [6] (fun i wr => ∃ (k : Nat) (z : Value), 1 ≤ k ∧ k ≤ 4 ∧ i = .int .i64 k ∧ Blk wr w3.heap.size #[.int .i64 K, z] ∧ Own wr w3.heap.size 9 z (scells (candTo K F st k 0)) ∧ (∀ j, z.ownBlock = some j → j ≠ w3.heap.size) ∧ Ext w3 wr) (fun i _ => 4 - (intOf i).toNat)
  case atStart => exact ⟨1, .slice none 0 0, by omega, by omega, rfl, b5, hB0, by intro j hj; simp [Value.ownBlock] at hj, hBx⟩
  case round =>
    clear hBx b5 hB0
    obtain ⟨k, z, hk1, hk4, rfl, b5, hown, hsep, hxr⟩ := hrel
    obtain ⟨wm, rfl⟩ : ∃ wm : World, wm = wr := ⟨_, rfl⟩
    by_cases hk : k ≤ 3
    · have c0 := hxr.cell_some (HB.out.2.2.2.cell 0 _ rfl)
      have c1 := hxr.cell_some (HB.out.2.2.2.cell 1 _ rfl)
      have HA := Lib.hid (impl_wordsOf_any K k wm hK0 hK3 (by omega) (by
        have h2 : K ^ k ≤ 3 ^ k := Nat.pow_le_pow_left hK3 k
        have h3 : 3 ^ k ≤ 3 ^ 3 := Nat.pow_le_pow_right (by omega) hk
        omega))
      have hlow := fun j hj => (World.ownsRow.lt hown j hj).2
      have HO := Lib.hid (And.intro hown (And.intro hsep (And.intro b5 hlow)))
      clear hown hsep b5 hlow
      go_wp2_with fail
      with_reducible refine HA.out.mono ?_
      rintro e w6 ⟨u, rfl, hw, hy⟩
      have hpos : 0 < (wordsL K k).length := by
        have h1 : (wordsL K k).length = K ^ k := by simp [wordsL]
        rw [h1]
        exact Nat.pow_pos hK0
      have hsh : ∃ gw cw, u = .slice (some ⟨gw, 0, none⟩) (wordsL K k).length cw ∧ wm.heap.size ≤ gw ∧ (wordsL K k).length ≤ cw ∧ cw ≤ 9223372036854775807 := by
        rcases hw.shape with ⟨_, hn⟩ | ⟨gw, cw, hv, h1, _, h3, h4⟩
        · have := congrArg List.length hn
          rw [scells_length, List.length_nil] at this
          omega
        · rw [scells_length] at hv h3
          exact ⟨gw, cw, hv, h1, h3, by unfold maxLen at h4; omega⟩
      obtain ⟨gw, cw, rfl, hgw, hlw1, hlw2⟩ := hsh
      have hgw3 : ¬ gw = w3.heap.size := by have := HO.out.2.2.1.lt; omega
      have hx6 := hxr.trans hy
      have hown6 := HO.out.1.ext hy
      have b6 := HO.out.2.2.1.ext hy
      have hsep6 : ∀ j, z.ownBlock = some j → j ≠ w3.heap.size ∧ j ≠ gw := fun j hj => ⟨HO.out.2.1 j hj, by have := HO.out.2.2.2 j hj; omega⟩
      have hwl := (World.ownsRow.lt hw gw rfl).2
      have hxs := hxr.size
      obtain ⟨N, hN⟩ : ∃ N, N = (wordsL K k).length := ⟨_, rfl⟩
      rw [← hN] at hw hpos hlw1 ⊢
      have HW := Lib.hid (And.intro hN (And.intro b6 (And.intro hown6 (And.intro hsep6 (And.intro hw hx6)))))
      clear hw hN hy c0 c1 hxr hown6 b6 hsep6 hx6
      go_wp2
      go_loopw [31] (fun j wn => ∃ (q : Nat) (z : Value), q ≤ N ∧ j = .int .i64 q ∧ Blk wn w3.heap.size #[.int .i64 K, z] ∧ Own wn w3.heap.size 9 z (scells (candTo K F st k q)) ∧ (∀ j, z.ownBlock = some j → j ≠ w3.heap.size ∧ j ≠ gw) ∧ Own wn wm.heap.size 9 (.slice (some ⟨gw, 0, none⟩) N cw) (scells (wordsL K k)) ∧ Ext w3 wn) (fun j _ => N - (intOf j).toNat)
      case atStart => exact ⟨0, z, by omega, rfl, HW.out.2.1, HW.out.2.2.1, HW.out.2.2.2.1, HW.out.2.2.2.2.1, HW.out.2.2.2.2.2⟩
      case round =>
        obtain ⟨q, z, hq, rfl, b5, hown, hsep, hw, hxr⟩ := hrel
        obtain ⟨wn, rfl⟩ : ∃ wn : World, wn = wr := ⟨_, rfl⟩
        by_cases hlt : q < N
        · have hwc : wn.cell? ⟨gw, q, none⟩ = some (.string (mkS ((wordsL K k).getD q []))) := by
            have h1 := hw.cell q (by rw [scells_length, ← HW.out.1]; exact hlt)
            rw [scells_at _ _ (by rw [← HW.out.1]; exact hlt)] at h1
            exact h1
          have hlw : q < (wordsL K k).length := by rw [← HW.out.1]; exact hlt
          have hug : (wordsL K k).getD q [] = (wordsL K k)[q] := by rw [List.getD_eq_getElem?_getD, List.getElem?_eq_getElem hlw, Option.getD_some]
          obtain ⟨u, hu⟩ : ∃ u, u = (wordsL K k).getD q [] := ⟨_, rfl⟩
          rw [← hu] at hwc hug
          have hul : u.length = k := wordsL_size (by rw [hug]; exact List.getElem_mem hlw)
          have htk : (wordsL K k).take (q + 1) = (wordsL K k).take q ++ [u] := by rw [hug]; exact List.take_succ_eq_append_getElem hlw
          obtain ⟨p, hp⟩ : ∃ p, p + 1 = k := ⟨k - 1, by omega⟩
          have hkp : (k : Int) - 1 = (p : Int) := by omega
          have h1k : (1 : Int) ≤ (k : Int) := by omega
          have hsu : (mkS u).size = k := by rw [mkS_size, hul]
          have hsl1 := mkS_tail u 1
          have hsl2 := mkS_head u p
          rw [hsu] at hsl1
          have hmin : minB F st u = (!(hasL F st u) && (hasL F st (u.drop 1) && hasL F st (u.take p))) := by unfold minB; rw [List.drop_one, hul, show k - 1 = p by omega]
          obtain ⟨d, hd⟩ : ∃ d, d = u.drop 1 := ⟨_, rfl⟩
          obtain ⟨a, ha⟩ : ∃ a, a = u.take p := ⟨_, rfl⟩
          rw [← hd] at hsl1 hmin
          rw [← ha] at hsl2 hmin
          have hi1 := fun w h hz hm => HE.out.2.2.2.2.2 u w (.slice pz st.length cz) h hz hm (by omega)
          have hi2 := fun w h hz hm => HE.out.2.2.2.2.2 d w (.slice pz st.length cz) h hz hm (by rw [hd, List.length_drop]; omega)
          have hi3 := fun w h hz hm => HE.out.2.2.2.2.2 a w (.slice pz st.length cz) h hz hm (by rw [ha, List.length_take]; omega)
          obtain ⟨b1, hb1⟩ : ∃ b, b = hasL F st u := ⟨_, rfl⟩
          obtain ⟨b2, hb2⟩ : ∃ b, b = hasL F st d := ⟨_, rfl⟩
          obtain ⟨b3, hb3⟩ : ∃ b, b = hasL F st a := ⟨_, rfl⟩
          rw [← hb1] at hi1 hmin
          rw [← hb2] at hi2 hmin
          rw [← hb3] at hi3 hmin
          have HI := Lib.hid (And.intro hi1 (And.intro hi2 hi3))
          have HT := Lib.hid (And.intro htk hmin)
          have HP := Lib.hid hsep
          have c0 := hxr.cell_some (HB.out.2.2.2.cell 0 _ rfl)
          have c1 := hxr.cell_some (HB.out.2.2.2.cell 1 _ rfl)
          clear hu hug hlw htk hmin hd ha hb1 hb2 hb3 hi1 hi2 hi3 hul hp hsep
          cases b1
          rotate_left
          · go_wp2
            refine wp_region_inv (by kernel_rfl) (.known ?hx9_2_v0 :: .known ?hx9_2_v1 :: .known ?hx9_2_v2 :: .known (.bool true) :: .known ?hx9_2_v4 :: .known ?hx9_2_v5 :: .known ?hx9_2_v6 :: .known ?hx9_2_v7 :: .known ?hx9_2_v8 :: .known ?hx9_2_v9 :: .known ?hx9_2_v10 :: .known ?hx9_2_v11 :: .known ?hx9_2_v12 :: .known ?hx9_2_v13 :: .known ?hx9_2_v14 :: .known ?hx9_2_v15 :: .known ?hx9_2_v16 :: .known ?hx9_2_v17 :: .known ?hx9_2_v18 :: .known ?hx9_2_v19 :: .known ?hx9_2_v20 :: []) rfl (by kernel_rfl) ?hx9_2_s ?hx9_2_p
            case hx9_2_s =>
              intro vs
              refine ⟨fun w' hxw hj => ?_, fun w' hxw hj => ?_, fun w' hxw hj => ?_, fun w' hxw hj => ?_, fun w' hxw hj => ?_, fun w' hxw hj => ?_, fun w' hxw hj => ?_, fun w' hxw hj => ?_, fun w' hxw hj => ?_, fun w' hxw hj => ?_, fun w' hxw hj => ?_, fun w' hxw hj => ?_, fun w' hxw hj => ?_, fun w' hxw hj => ?_, fun w' hxw hj => ?_, fun w' hxw hj => ?_, fun w' hxw hj => ?_, fun w' hxw hj => ?_, fun w' hxw hj => ?_, fun w' hxw hj => ?_, fun w' hxw hj => ?_, trivial⟩
              · have c0 := Ext.cell_some hxw c0
                have c1 := Ext.cell_some hxw c1
                have hwc := Ext.cell_some hxw hwc
                clear hj
                go_simp
                try go_bits
                first | rfl | (rw [if_pos (by omega), if_pos (by omega)]; go_simp; rfl) | (rw [if_pos (by omega)]; go_simp; rfl) | skip
              · have c0 := Ext.cell_some hxw c0
                have c1 := Ext.cell_some hxw c1
                have hwc := Ext.cell_some hxw hwc
                clear hj
                go_simp
                try go_bits
                first | rfl | (rw [if_pos (by omega), if_pos (by omega)]; go_simp; rfl) | (rw [if_pos (by omega)]; go_simp; rfl) | skip
              · have c0 := Ext.cell_some hxw c0
                have c1 := Ext.cell_some hxw c1
                have hwc := Ext.cell_some hxw hwc
                clear hj
                go_simp
                try go_bits
                first | rfl | (rw [if_pos (by omega), if_pos (by omega)]; go_simp; rfl) | (rw [if_pos (by omega)]; go_simp; rfl) | skip
              · have c0 := Ext.cell_some hxw c0
                have c1 := Ext.cell_some hxw c1
                have hwc := Ext.cell_some hxw hwc
                clear hj
                go_simp
                try go_bits
                exact HI.out.1 _ ((HZ.out.2.1.ext hxr).ext hxw) ((Reads.ext HZ.out.1 hxr).ext hxw) ((HZ.out.2.2.ext hxr).ext hxw)
              · have c0 := Ext.cell_some hxw c0
                have c1 := Ext.cell_some hxw c1
                have hwc := Ext.cell_some hxw hwc
                clear hj
                go_simp
                try go_bits
                first | rfl | (rw [if_pos (by omega), if_pos (by omega)]; go_simp; rfl) | (rw [if_pos (by omega)]; go_simp; rfl) | skip
              · have c0 := Ext.cell_some hxw c0
                have c1 := Ext.cell_some hxw c1
                have hwc := Ext.cell_some hxw hwc
                clear hj
                go_simp
                try go_bits
                first | rfl | (rw [if_pos (by omega), if_pos (by omega)]; go_simp; rfl) | (rw [if_pos (by omega)]; go_simp; rfl) | skip
              · have c0 := Ext.cell_some hxw c0
                have c1 := Ext.cell_some hxw c1
                have hwc := Ext.cell_some hxw hwc
                clear hj
                go_simp
                try go_bits
                first | rfl | (rw [if_pos (by omega), if_pos (by omega)]; go_simp; rfl) | (rw [if_pos (by omega)]; go_simp; rfl) | skip
              · have c0 := Ext.cell_some hxw c0
                have c1 := Ext.cell_some hxw c1
                have hwc := Ext.cell_some hxw hwc
                clear hj
                go_simp
                try go_bits
                first | rfl | (rw [if_pos (by omega), if_pos (by omega)]; go_simp; rfl) | (rw [if_pos (by omega)]; go_simp; rfl) | skip
              · have c0 := Ext.cell_some hxw c0
                have c1 := Ext.cell_some hxw c1
                have hwc := Ext.cell_some hxw hwc
                clear hj
                go_simp
                try go_bits
                first | rfl | (rw [if_pos (by omega), if_pos (by omega)]; go_simp; rfl) | (rw [if_pos (by omega)]; go_simp; rfl) | skip
              · have c0 := Ext.cell_some hxw c0
                have c1 := Ext.cell_some hxw c1
                have hwc := Ext.cell_some hxw hwc
                clear hj
                go_simp
                try go_bits
                first | rfl | (rw [if_pos (by omega), if_pos (by omega)]; go_simp; rfl) | (rw [if_pos (by omega)]; go_simp; rfl) | skip
              · have c0 := Ext.cell_some hxw c0
                have c1 := Ext.cell_some hxw c1
                have hwc := Ext.cell_some hxw hwc
                clear hj
                go_simp
                try go_bits
                first | rfl | (rw [if_pos (by omega), if_pos (by omega)]; go_simp; rfl) | (rw [if_pos (by omega)]; go_simp; rfl) | skip
              · have c0 := Ext.cell_some hxw c0
                have c1 := Ext.cell_some hxw c1
                have hwc := Ext.cell_some hxw hwc
                clear hj
                go_simp
                try go_bits
                first | rfl | (rw [if_pos (by omega), if_pos (by omega)]; go_simp; rfl) | (rw [if_pos (by omega)]; go_simp; rfl) | skip
              · have c0 := Ext.cell_some hxw c0
                have c1 := Ext.cell_some hxw c1
                have hwc := Ext.cell_some hxw hwc
                clear hj
                go_simp
                try go_bits
                first | rfl | (rw [if_pos (by omega), if_pos (by omega)]; go_simp; rfl) | (rw [if_pos (by omega)]; go_simp; rfl) | skip
              · have c0 := Ext.cell_some hxw c0
                have c1 := Ext.cell_some hxw c1
                have hwc := Ext.cell_some hxw hwc
                clear hj
                go_simp
                try go_bits
                first | rfl | (rw [if_pos (by omega), if_pos (by omega)]; go_simp; rfl) | (rw [if_pos (by omega)]; go_simp; rfl) | skip
              · have c0 := Ext.cell_some hxw c0
                have c1 := Ext.cell_some hxw c1
                have hwc := Ext.cell_some hxw hwc
                clear hj
                go_simp
                try go_bits
                first | rfl | (rw [if_pos (by omega), if_pos (by omega)]; go_simp; rfl) | (rw [if_pos (by omega)]; go_simp; rfl) | skip
              · have c0 := Ext.cell_some hxw c0
                have c1 := Ext.cell_some hxw c1
                have hwc := Ext.cell_some hxw hwc
                clear hj
                go_simp
                try go_bits
                first | rfl | (rw [if_pos (by omega), if_pos (by omega)]; go_simp; rfl) | (rw [if_pos (by omega)]; go_simp; rfl) | skip
              · have c0 := Ext.cell_some hxw c0
                have c1 := Ext.cell_some hxw c1
                have hwc := Ext.cell_some hxw hwc
                clear hj
                go_simp
                try go_bits
                first | rfl | (rw [if_pos (by omega), if_pos (by omega)]; go_simp; rfl) | (rw [if_pos (by omega)]; go_simp; rfl) | skip
              · have c0 := Ext.cell_some hxw c0
                have c1 := Ext.cell_some hxw c1
                have hwc := Ext.cell_some hxw hwc
                clear hj
                go_simp
                try go_bits
                first | rfl | (rw [if_pos (by omega), if_pos (by omega)]; go_simp; rfl) | (rw [if_pos (by omega)]; go_simp; rfl) | skip
              · have c0 := Ext.cell_some hxw c0
                have c1 := Ext.cell_some hxw c1
                have hwc := Ext.cell_some hxw hwc
                clear hj
                go_simp
                try go_bits
                first | rfl | (rw [if_pos (by omega), if_pos (by omega)]; go_simp; rfl) | (rw [if_pos (by omega)]; go_simp; rfl) | skip
              · have c0 := Ext.cell_some hxw c0
                have c1 := Ext.cell_some hxw c1
                have hwc := Ext.cell_some hxw hwc
                clear hj
                go_simp
                try go_bits
                first | rfl | (rw [if_pos (by omega), if_pos (by omega)]; go_simp; rfl) | (rw [if_pos (by omega)]; go_simp; rfl) | skip
              · have c0 := Ext.cell_some hxw c0
                have c1 := Ext.cell_some hxw c1
                have hwc := Ext.cell_some hxw hwc
                clear hj
                go_simp
                try go_bits
                first | rfl | (rw [if_pos (by omega), if_pos (by omega)]; go_simp; rfl) | (rw [if_pos (by omega)]; go_simp; rfl) | skip
            case' hx9_2_p =>
              intro vs w9 hx9 hk
              clear hk
              replace c0 := Ext.cell_some hx9 c0
              replace c1 := Ext.cell_some hx9 c1
              replace hwc := Ext.cell_some hx9 hwc
              replace hown := Own.ext hown hx9
              replace hw := Own.ext hw hx9
              replace b5 := Blk.ext b5 hx9
              replace hxr := Ext.trans hxr hx9
              go_simp
              have HQ := Lib.hid (candTo_skip (F := F) (st := st) HT.out.1 (by rw [HT.out.2]; rfl))
              clear hx9 c0 c1 hwc
              go_wp2
              go_roundw
              case rel => exact ⟨q + 1, z, by omega, by go_num, b5, by rw [HQ.out]; exact hown, HP.out, hw, hxr⟩
              case measure => simp [intOf]; omega
          cases b2
          · go_wp2
            refine wp_region_inv (by kernel_rfl) (.known ?hx9_3_v0 :: .known ?hx9_3_v1 :: .known ?hx9_3_v2 :: .known (.bool false) :: .known ?hx9_3_v4 :: .known ?hx9_3_v5 :: .known ?hx9_3_v6 :: .known ?hx9_3_v7 :: .known ?hx9_3_v8 :: .known ?hx9_3_v9 :: .known (.bool false) :: .known ?hx9_3_v11 :: .known ?hx9_3_v12 :: .known ?hx9_3_v13 :: .known ?hx9_3_v14 :: .known ?hx9_3_v15 :: .known ?hx9_3_v16 :: .known ?hx9_3_v17 :: .known ?hx9_3_v18 :: .known ?hx9_3_v19 :: .known ?hx9_3_v20 :: []) rfl (by kernel_rfl) ?hx9_3_s ?hx9_3_p
            case hx9_3_s =>
              intro vs
              refine ⟨fun w' hxw hj => ?_, fun w' hxw hj => ?_, fun w' hxw hj => ?_, fun w' hxw hj => ?_, fun w' hxw hj => ?_, fun w' hxw hj => ?_, fun w' hxw hj => ?_, fun w' hxw hj => ?_, fun w' hxw hj => ?_, fun w' hxw hj => ?_, fun w' hxw hj => ?_, fun w' hxw hj => ?_, fun w' hxw hj => ?_, fun w' hxw hj => ?_, fun w' hxw hj => ?_, fun w' hxw hj => ?_, fun w' hxw hj => ?_, fun w' hxw hj => ?_, fun w' hxw hj => ?_, fun w' hxw hj => ?_, fun w' hxw hj => ?_, trivial⟩
              · have c0 := Ext.cell_some hxw c0
                have c1 := Ext.cell_some hxw c1
                have hwc := Ext.cell_some hxw hwc
                clear hj
                go_simp
                try go_bits
                first | rfl | (rw [if_pos (by omega), if_pos (by omega)]; go_simp; rfl) | (rw [if_pos (by omega)]; go_simp; rfl) | skip
              · have c0 := Ext.cell_some hxw c0
                have c1 := Ext.cell_some hxw c1
                have hwc := Ext.cell_some hxw hwc
                clear hj
                go_simp
                try go_bits
                first | rfl | (rw [if_pos (by omega), if_pos (by omega)]; go_simp; rfl) | (rw [if_pos (by omega)]; go_simp; rfl) | skip
              · have c0 := Ext.cell_some hxw c0
                have c1 := Ext.cell_some hxw c1
                have hwc := Ext.cell_some hxw hwc
                clear hj
                go_simp
                try go_bits
                first | rfl | (rw [if_pos (by omega), if_pos (by omega)]; go_simp; rfl) | (rw [if_pos (by omega)]; go_simp; rfl) | skip
              · have c0 := Ext.cell_some hxw c0
                have c1 := Ext.cell_some hxw c1
                have hwc := Ext.cell_some hxw hwc
                clear hj
                go_simp
                try go_bits
                exact HI.out.1 _ ((HZ.out.2.1.ext hxr).ext hxw) ((Reads.ext HZ.out.1 hxr).ext hxw) ((HZ.out.2.2.ext hxr).ext hxw)
              · have c0 := Ext.cell_some hxw c0
                have c1 := Ext.cell_some hxw c1
                have hwc := Ext.cell_some hxw hwc
                clear hj
                go_simp
                try go_bits
                first | rfl | (rw [if_pos (by omega), if_pos (by omega)]; go_simp; rfl) | (rw [if_pos (by omega)]; go_simp; rfl) | skip
              · have c0 := Ext.cell_some hxw c0
                have c1 := Ext.cell_some hxw c1
                have hwc := Ext.cell_some hxw hwc
                clear hj
                go_simp
                try go_bits
                first | rfl | (rw [if_pos (by omega), if_pos (by omega)]; go_simp; rfl) | (rw [if_pos (by omega)]; go_simp; rfl) | skip
              · have c0 := Ext.cell_some hxw c0
                have c1 := Ext.cell_some hxw c1
                have hwc := Ext.cell_some hxw hwc
                clear hj
                go_simp
                try go_bits
                first | rfl | (rw [if_pos (by omega), if_pos (by omega)]; go_simp; rfl) | (rw [if_pos (by omega)]; go_simp; rfl) | skip
              · have c0 := Ext.cell_some hxw c0
                have c1 := Ext.cell_some hxw c1
                have hwc := Ext.cell_some hxw hwc
                clear hj
                go_simp
                try go_bits
                first | rfl | (rw [if_pos (by omega), if_pos (by omega)]; go_simp; rfl) | (rw [if_pos (by omega)]; go_simp; rfl) | skip
              · have c0 := Ext.cell_some hxw c0
                have c1 := Ext.cell_some hxw c1
                have hwc := Ext.cell_some hxw hwc
                clear hj
                go_simp
                try go_bits
                first | rfl | (rw [if_pos (by omega), if_pos (by omega)]; go_simp; rfl) | (rw [if_pos (by omega)]; go_simp; rfl) | skip
              · have c0 := Ext.cell_some hxw c0
                have c1 := Ext.cell_some hxw c1
                have hwc := Ext.cell_some hxw hwc
                clear hj
                go_simp
                try go_bits
                first | rfl | (rw [if_pos (by omega), if_pos (by omega)]; go_simp; rfl) | (rw [if_pos (by omega)]; go_simp; rfl) | skip
              · have c0 := Ext.cell_some hxw c0
                have c1 := Ext.cell_some hxw c1
                have hwc := Ext.cell_some hxw hwc
                clear hj
                go_simp
                try go_bits
                exact HI.out.2.1 _ ((HZ.out.2.1.ext hxr).ext hxw) ((Reads.ext HZ.out.1 hxr).ext hxw) ((HZ.out.2.2.ext hxr).ext hxw)
              · have c0 := Ext.cell_some hxw c0
                have c1 := Ext.cell_some hxw c1
                have hwc := Ext.cell_some hxw hwc
                clear hj
                go_simp
                try go_bits
                first | rfl | (rw [if_pos (by omega), if_pos (by omega)]; go_simp; rfl) | (rw [if_pos (by omega)]; go_simp; rfl) | skip
              · have c0 := Ext.cell_some hxw c0
                have c1 := Ext.cell_some hxw c1
                have hwc := Ext.cell_some hxw hwc
                clear hj
                go_simp
                try go_bits
                first | rfl | (rw [if_pos (by omega), if_pos (by omega)]; go_simp; rfl) | (rw [if_pos (by omega)]; go_simp; rfl) | skip
              · have c0 := Ext.cell_some hxw c0
                have c1 := Ext.cell_some hxw c1
                have hwc := Ext.cell_some hxw hwc
                clear hj
                go_simp
                try go_bits
                first | rfl | (rw [if_pos (by omega), if_pos (by omega)]; go_simp; rfl) | (rw [if_pos (by omega)]; go_simp; rfl) | skip
              · have c0 := Ext.cell_some hxw c0
                have c1 := Ext.cell_some hxw c1
                have hwc := Ext.cell_some hxw hwc
                clear hj
                go_simp
                try go_bits
                first | rfl | (rw [if_pos (by omega), if_pos (by omega)]; go_simp; rfl) | (rw [if_pos (by omega)]; go_simp; rfl) | skip
              · have c0 := Ext.cell_some hxw c0
                have c1 := Ext.cell_some hxw c1
                have hwc := Ext.cell_some hxw hwc
                clear hj
                go_simp
                try go_bits
                first | rfl | (rw [if_pos (by omega), if_pos (by omega)]; go_simp; rfl) | (rw [if_pos (by omega)]; go_simp; rfl) | skip
              · have c0 := Ext.cell_some hxw c0
                have c1 := Ext.cell_some hxw c1
                have hwc := Ext.cell_some hxw hwc
                clear hj
                go_simp
                try go_bits
                first | rfl | (rw [if_pos (by omega), if_pos (by omega)]; go_simp; rfl) | (rw [if_pos (by omega)]; go_simp; rfl) | skip
              · have c0 := Ext.cell_some hxw c0
                have c1 := Ext.cell_some hxw c1
                have hwc := Ext.cell_some hxw hwc
                clear hj
                go_simp
                try go_bits
                first | rfl | (rw [if_pos (by omega), if_pos (by omega)]; go_simp; rfl) | (rw [if_pos (by omega)]; go_simp; rfl) | skip
              · have c0 := Ext.cell_some hxw c0
                have c1 := Ext.cell_some hxw c1
                have hwc := Ext.cell_some hxw hwc
                clear hj
                go_simp
                try go_bits
                first | rfl | (rw [if_pos (by omega), if_pos (by omega)]; go_simp; rfl) | (rw [if_pos (by omega)]; go_simp; rfl) | skip
              · have c0 := Ext.cell_some hxw c0
                have c1 := Ext.cell_some hxw c1
                have hwc := Ext.cell_some hxw hwc
                clear hj
                go_simp
                try go_bits
                first | rfl | (rw [if_pos (by omega), if_pos (by omega)]; go_simp; rfl) | (rw [if_pos (by omega)]; go_simp; rfl) | skip
              · have c0 := Ext.cell_some hxw c0
                have c1 := Ext.cell_some hxw c1
                have hwc := Ext.cell_some hxw hwc
                clear hj
                go_simp
                try go_bits
                first | rfl | (rw [if_pos (by omega), if_pos (by omega)]; go_simp; rfl) | (rw [if_pos (by omega)]; go_simp; rfl) | skip
            case' hx9_3_p =>
              intro vs w9 hx9 hk
              clear hk
              replace c0 := Ext.cell_some hx9 c0
              replace c1 := Ext.cell_some hx9 c1
              replace hwc := Ext.cell_some hx9 hwc
              replace hown := Own.ext hown hx9
              replace hw := Own.ext hw hx9
              replace b5 := Blk.ext b5 hx9
              replace hxr := Ext.trans hxr hx9
              go_simp
              have HQ := Lib.hid (candTo_skip (F := F) (st := st) HT.out.1 (by rw [HT.out.2]; rfl))
              clear hx9 c0 c1 hwc
              go_wp2
              go_roundw
              case rel => exact ⟨q + 1, z, by omega, by go_num, b5, by rw [HQ.out]; exact hown, HP.out, hw, hxr⟩
              case measure => simp [intOf]; omega
          cases b3
          · go_wp2
            refine wp_region_inv (by kernel_rfl) (.known ?hx9_4_v0 :: .known ?hx9_4_v1 :: .known ?hx9_4_v2 :: .known (.bool false) :: .known ?hx9_4_v4 :: .known ?hx9_4_v5 :: .known ?hx9_4_v6 :: .known ?hx9_4_v7 :: .known ?hx9_4_v8 :: .known ?hx9_4_v9 :: .known (.bool true) :: .known ?hx9_4_v11 :: .known ?hx9_4_v12 :: .known ?hx9_4_v13 :: .known ?hx9_4_v14 :: .known ?hx9_4_v15 :: .known ?hx9_4_v16 :: .known ?hx9_4_v17 :: .known ?hx9_4_v18 :: .known (.bool false) :: .known ?hx9_4_v20 :: []) rfl (by kernel_rfl) ?hx9_4_s ?hx9_4_p
            case hx9_4_s =>
              intro vs
              refine ⟨fun w' hxw hj => ?_, fun w' hxw hj => ?_, fun w' hxw hj => ?_, fun w' hxw hj => ?_, fun w' hxw hj => ?_, fun w' hxw hj => ?_, fun w' hxw hj => ?_, fun w' hxw hj => ?_, fun w' hxw hj => ?_, fun w' hxw hj => ?_, fun w' hxw hj => ?_, fun w' hxw hj => ?_, fun w' hxw hj => ?_, fun w' hxw hj => ?_, fun w' hxw hj => ?_, fun w' hxw hj => ?_, fun w' hxw hj => ?_, fun w' hxw hj => ?_, fun w' hxw hj => ?_, fun w' hxw hj => ?_, fun w' hxw hj => ?_, trivial⟩
              · have c0 := Ext.cell_some hxw c0
                have c1 := Ext.cell_some hxw c1
                have hwc := Ext.cell_some hxw hwc
                clear hj
                go_simp
                try go_bits
                first | rfl | (rw [if_pos (by omega), if_pos (by omega)]; go_simp; rfl) | (rw [if_pos (by omega)]; go_simp; rfl) | skip
              · have c0 := Ext.cell_some hxw c0
                have c1 := Ext.cell_some hxw c1
                have hwc := Ext.cell_some hxw hwc
                clear hj
                go_simp
                try go_bits
                first | rfl | (rw [if_pos (by omega), if_pos (by omega)]; go_simp; rfl) | (rw [if_pos (by omega)]; go_simp; rfl) | skip
              · have c0 := Ext.cell_some hxw c0
                have c1 := Ext.cell_some hxw c1
                have hwc := Ext.cell_some hxw hwc
                clear hj
                go_simp
                try go_bits
                first | rfl | (rw [if_pos (by omega), if_pos (by omega)]; go_simp; rfl) | (rw [if_pos (by omega)]; go_simp; rfl) | skip
              · have c0 := Ext.cell_some hxw c0
                have c1 := Ext.cell_some hxw c1
                have hwc := Ext.cell_some hxw hwc
                clear hj
                go_simp
                try go_bits
                exact HI.out.1 _ ((HZ.out.2.1.ext hxr).ext hxw) ((Reads.ext HZ.out.1 hxr).ext hxw) ((HZ.out.2.2.ext hxr).ext hxw)
              · have c0 := Ext.cell_some hxw c0
                have c1 := Ext.cell_some hxw c1
                have hwc := Ext.cell_some hxw hwc
                clear hj
                go_simp
                try go_bits
                first | rfl | (rw [if_pos (by omega), if_pos (by omega)]; go_simp; rfl) | (rw [if_pos (by omega)]; go_simp; rfl) | skip
              · have c0 := Ext.cell_some hxw c0
                have c1 := Ext.cell_some hxw c1
                have hwc := Ext.cell_some hxw hwc
                clear hj
                go_simp
                try go_bits
                first | rfl | (rw [if_pos (by omega), if_pos (by omega)]; go_simp; rfl) | (rw [if_pos (by omega)]; go_simp; rfl) | skip
              · have c0 := Ext.cell_some hxw c0
                have c1 := Ext.cell_some hxw c1
                have hwc := Ext.cell_some hxw hwc
                clear hj
                go_simp
                try go_bits
                first | rfl | (rw [if_pos (by omega), if_pos (by omega)]; go_simp; rfl) | (rw [if_pos (by omega)]; go_simp; rfl) | skip
              · have c0 := Ext.cell_some hxw c0
                have c1 := Ext.cell_some hxw c1
                have hwc := Ext.cell_some hxw hwc
                clear hj
                go_simp
                try go_bits
                first | rfl | (rw [if_pos (by omega), if_pos (by omega)]; go_simp; rfl) | (rw [if_pos (by omega)]; go_simp; rfl) | skip
              · have c0 := Ext.cell_some hxw c0
                have c1 := Ext.cell_some hxw c1
                have hwc := Ext.cell_some hxw hwc
                clear hj
                go_simp
                try go_bits
                first | rfl | (rw [if_pos (by omega), if_pos (by omega)]; go_simp; rfl) | (rw [if_pos (by omega)]; go_simp; rfl) | skip
              · have c0 := Ext.cell_some hxw c0
                have c1 := Ext.cell_some hxw c1
                have hwc := Ext.cell_some hxw hwc
                clear hj
                go_simp
                try go_bits
                first | rfl | (rw [if_pos (by omega), if_pos (by omega)]; go_simp; rfl) | (rw [if_pos (by omega)]; go_simp; rfl) | skip
              · have c0 := Ext.cell_some hxw c0
                have c1 := Ext.cell_some hxw c1
                have hwc := Ext.cell_some hxw hwc
                clear hj
                go_simp
                try go_bits
                exact HI.out.2.1 _ ((HZ.out.2.1.ext hxr).ext hxw) ((Reads.ext HZ.out.1 hxr).ext hxw) ((HZ.out.2.2.ext hxr).ext hxw)
              · have c0 := Ext.cell_some hxw c0
                have c1 := Ext.cell_some hxw c1
                have hwc := Ext.cell_some hxw hwc
                clear hj
                go_simp
                try go_bits
                first | rfl | (rw [if_pos (by omega), if_pos (by omega)]; go_simp; rfl) | (rw [if_pos (by omega)]; go_simp; rfl) | skip
              · have c0 := Ext.cell_some hxw c0
                have c1 := Ext.cell_some hxw c1
                have hwc := Ext.cell_some hxw hwc
                clear hj
                go_simp
                try go_bits
                first | rfl | (rw [if_pos (by omega), if_pos (by omega)]; go_simp; rfl) | (rw [if_pos (by omega)]; go_simp; rfl) | skip
              · have c0 := Ext.cell_some hxw c0
                have c1 := Ext.cell_some hxw c1
                have hwc := Ext.cell_some hxw hwc
                clear hj
                go_simp
                try go_bits
                first | rfl | (rw [if_pos (by omega), if_pos (by omega)]; go_simp; rfl) | (rw [if_pos (by omega)]; go_simp; rfl) | skip
              · have c0 := Ext.cell_some hxw c0
                have c1 := Ext.cell_some hxw c1
                have hwc := Ext.cell_some hxw hwc
                clear hj
                go_simp
                try go_bits
                first | rfl | (rw [if_pos (by omega), if_pos (by omega)]; go_simp; rfl) | (rw [if_pos (by omega)]; go_simp; rfl) | skip
              · have c0 := Ext.cell_some hxw c0
                have c1 := Ext.cell_some hxw c1
                have hwc := Ext.cell_some hxw hwc
                clear hj
                go_simp
                try go_bits
                first | rfl | (rw [if_pos (by omega), if_pos (by omega)]; go_simp; rfl) | (rw [if_pos (by omega)]; go_simp; rfl) | skip
              · have c0 := Ext.cell_some hxw c0
                have c1 := Ext.cell_some hxw c1
                have hwc := Ext.cell_some hxw hwc
                clear hj
                go_simp
                try go_bits
                first | rfl | (rw [if_pos (by omega), if_pos (by omega)]; go_simp; rfl) | (rw [if_pos (by omega)]; go_simp; rfl) | skip
              · have c0 := Ext.cell_some hxw c0
                have c1 := Ext.cell_some hxw c1
                have hwc := Ext.cell_some hxw hwc
                clear hj
                go_simp
                try go_bits
                first | rfl | (rw [if_pos (by omega), if_pos (by omega)]; go_simp; rfl) | (rw [if_pos (by omega)]; go_simp; rfl) | skip
              · have c0 := Ext.cell_some hxw c0
                have c1 := Ext.cell_some hxw c1
                have hwc := Ext.cell_some hxw hwc
                clear hj
                go_simp
                try go_bits
                first | rfl | (rw [if_pos (by omega), if_pos (by omega)]; go_simp; rfl) | (rw [if_pos (by omega)]; go_simp; rfl) | skip
              · have c0 := Ext.cell_some hxw c0
                have c1 := Ext.cell_some hxw c1
                have hwc := Ext.cell_some hxw hwc
                clear hj
                go_simp
                try go_bits
                exact HI.out.2.2 _ ((HZ.out.2.1.ext hxr).ext hxw) ((Reads.ext HZ.out.1 hxr).ext hxw) ((HZ.out.2.2.ext hxr).ext hxw)
              · have c0 := Ext.cell_some hxw c0
                have c1 := Ext.cell_some hxw c1
                have hwc := Ext.cell_some hxw hwc
                clear hj
                go_simp
                try go_bits
                first | rfl | (rw [if_pos (by omega), if_pos (by omega)]; go_simp; rfl) | (rw [if_pos (by omega)]; go_simp; rfl) | skip
            case' hx9_4_p =>
              intro vs w9 hx9 hk
              clear hk
              replace c0 := Ext.cell_some hx9 c0
              replace c1 := Ext.cell_some hx9 c1
              replace hwc := Ext.cell_some hx9 hwc
              replace hown := Own.ext hown hx9
              replace hw := Own.ext hw hx9
              replace b5 := Blk.ext b5 hx9
              replace hxr := Ext.trans hxr hx9
              go_simp
              have HQ := Lib.hid (candTo_skip (F := F) (st := st) HT.out.1 (by rw [HT.out.2]; rfl))
              clear hx9 c0 c1 hwc
              go_wp2
              go_roundw
              case rel => exact ⟨q + 1, z, by omega, by go_num, b5, by rw [HQ.out]; exact hown, HP.out, hw, hxr⟩
              case measure => simp [intOf]; omega
          · go_wp2
            refine wp_region_inv (by kernel_rfl) (.known ?hx9_5_v0 :: .known ?hx9_5_v1 :: .known ?hx9_5_v2 :: .known (.bool false) :: .known ?hx9_5_v4 :: .known ?hx9_5_v5 :: .known ?hx9_5_v6 :: .known ?hx9_5_v7 :: .known ?hx9_5_v8 :: .known ?hx9_5_v9 :: .known (.bool true) :: .known ?hx9_5_v11 :: .known ?hx9_5_v12 :: .known ?hx9_5_v13 :: .known ?hx9_5_v14 :: .known ?hx9_5_v15 :: .known ?hx9_5_v16 :: .known ?hx9_5_v17 :: .known ?hx9_5_v18 :: .known (.bool true) :: .known ?hx9_5_v20 :: []) rfl (by kernel_rfl) ?hx9_5_s ?hx9_5_p
            case hx9_5_s =>
              intro vs
              refine ⟨fun w' hxw hj => ?_, fun w' hxw hj => ?_, fun w' hxw hj => ?_, fun w' hxw hj => ?_, fun w' hxw hj => ?_, fun w' hxw hj => ?_, fun w' hxw hj => ?_, fun w' hxw hj => ?_, fun w' hxw hj => ?_, fun w' hxw hj => ?_, fun w' hxw hj => ?_, fun w' hxw hj => ?_, fun w' hxw hj => ?_, fun w' hxw hj => ?_, fun w' hxw hj => ?_, fun w' hxw hj => ?_, fun w' hxw hj => ?_, fun w' hxw hj => ?_, fun w' hxw hj => ?_, fun w' hxw hj => ?_, fun w' hxw hj => ?_, trivial⟩
              · have c0 := Ext.cell_some hxw c0
                have c1 := Ext.cell_some hxw c1
                have hwc := Ext.cell_some hxw hwc
                clear hj
                go_simp
                try go_bits
                first | rfl | (rw [if_pos (by omega), if_pos (by omega)]; go_simp; rfl) | (rw [if_pos (by omega)]; go_simp; rfl) | skip
              · have c0 := Ext.cell_some hxw c0
                have c1 := Ext.cell_some hxw c1
                have hwc := Ext.cell_some hxw hwc
                clear hj
                go_simp
                try go_bits
                first | rfl | (rw [if_pos (by omega), if_pos (by omega)]; go_simp; rfl) | (rw [if_pos (by omega)]; go_simp; rfl) | skip
              · have c0 := Ext.cell_some hxw c0
                have c1 := Ext.cell_some hxw c1
                have hwc := Ext.cell_some hxw hwc
                clear hj
                go_simp
                try go_bits
                first | rfl | (rw [if_pos (by omega), if_pos (by omega)]; go_simp; rfl) | (rw [if_pos (by omega)]; go_simp; rfl) | skip
              · have c0 := Ext.cell_some hxw c0
                have c1 := Ext.cell_some hxw c1
                have hwc := Ext.cell_some hxw hwc
                clear hj
                go_simp
                try go_bits
                exact HI.out.1 _ ((HZ.out.2.1.ext hxr).ext hxw) ((Reads.ext HZ.out.1 hxr).ext hxw) ((HZ.out.2.2.ext hxr).ext hxw)
              · have c0 := Ext.cell_some hxw c0
                have c1 := Ext.cell_some hxw c1
                have hwc := Ext.cell_some hxw hwc
                clear hj
                go_simp
                try go_bits
                first | rfl | (rw [if_pos (by omega), if_pos (by omega)]; go_simp; rfl) | (rw [if_pos (by omega)]; go_simp; rfl) | skip
              · have c0 := Ext.cell_some hxw c0
                have c1 := Ext.cell_some hxw c1
                have hwc := Ext.cell_some hxw hwc
                clear hj
                go_simp
                try go_bits
                first | rfl | (rw [if_pos (by omega), if_pos (by omega)]; go_simp; rfl) | (rw [if_pos (by omega)]; go_simp; rfl) | skip
              · have c0 := Ext.cell_some hxw c0
                have c1 := Ext.cell_some hxw c1
                have hwc := Ext.cell_some hxw hwc
                clear hj
                go_simp
                try go_bits
                first | rfl | (rw [if_pos (by omega), if_pos (by omega)]; go_simp; rfl) | (rw [if_pos (by omega)]; go_simp; rfl) | skip
              · have c0 := Ext.cell_some hxw c0
                have c1 := Ext.cell_some hxw c1
                have hwc := Ext.cell_some hxw hwc
                clear hj
                go_simp
                try go_bits
                first | rfl | (rw [if_pos (by omega), if_pos (by omega)]; go_simp; rfl) | (rw [if_pos (by omega)]; go_simp; rfl) | skip
              · have c0 := Ext.cell_some hxw c0
                have c1 := Ext.cell_some hxw c1
                have hwc := Ext.cell_some hxw hwc
                clear hj
                go_simp
                try go_bits
                first | rfl | (rw [if_pos (by omega), if_pos (by omega)]; go_simp; rfl) | (rw [if_pos (by omega)]; go_simp; rfl) | skip
              · have c0 := Ext.cell_some hxw c0
                have c1 := Ext.cell_some hxw c1
                have hwc := Ext.cell_some hxw hwc
                clear hj
                go_simp
                try go_bits
                first | rfl | (rw [if_pos (by omega), if_pos (by omega)]; go_simp; rfl) | (rw [if_pos (by omega)]; go_simp; rfl) | skip
              · have c0 := Ext.cell_some hxw c0
                have c1 := Ext.cell_some hxw c1
                have hwc := Ext.cell_some hxw hwc
                clear hj
                go_simp
                try go_bits
                exact HI.out.2.1 _ ((HZ.out.2.1.ext hxr).ext hxw) ((Reads.ext HZ.out.1 hxr).ext hxw) ((HZ.out.2.2.ext hxr).ext hxw)
              · have c0 := Ext.cell_some hxw c0
                have c1 := Ext.cell_some hxw c1
                have hwc := Ext.cell_some hxw hwc
                clear hj
                go_simp
                try go_bits
                first | rfl | (rw [if_pos (by omega), if_pos (by omega)]; go_simp; rfl) | (rw [if_pos (by omega)]; go_simp; rfl) | skip
              · have c0 := Ext.cell_some hxw c0
                have c1 := Ext.cell_some hxw c1
                have hwc := Ext.cell_some hxw hwc
                clear hj
                go_simp
                try go_bits
                first | rfl | (rw [if_pos (by omega), if_pos (by omega)]; go_simp; rfl) | (rw [if_pos (by omega)]; go_simp; rfl) | skip
              · have c0 := Ext.cell_some hxw c0
                have c1 := Ext.cell_some hxw c1
                have hwc := Ext.cell_some hxw hwc
                clear hj
                go_simp
                try go_bits
                first | rfl | (rw [if_pos (by omega), if_pos (by omega)]; go_simp; rfl) | (rw [if_pos (by omega)]; go_simp; rfl) | skip
              · have c0 := Ext.cell_some hxw c0
                have c1 := Ext.cell_some hxw c1
                have hwc := Ext.cell_some hxw hwc
                clear hj
                go_simp
                try go_bits
                first | rfl | (rw [if_pos (by omega), if_pos (by omega)]; go_simp; rfl) | (rw [if_pos (by omega)]; go_simp; rfl) | skip
              · have c0 := Ext.cell_some hxw c0
                have c1 := Ext.cell_some hxw c1
                have hwc := Ext.cell_some hxw hwc
                clear hj
                go_simp
                try go_bits
                first | rfl | (rw [if_pos (by omega), if_pos (by omega)]; go_simp; rfl) | (rw [if_pos (by omega)]; go_simp; rfl) | skip
              · have c0 := Ext.cell_some hxw c0
                have c1 := Ext.cell_some hxw c1
                have hwc := Ext.cell_some hxw hwc
                clear hj
                go_simp
                try go_bits
                first | rfl | (rw [if_pos (by omega), if_pos (by omega)]; go_simp; rfl) | (rw [if_pos (by omega)]; go_simp; rfl) | skip
              · have c0 := Ext.cell_some hxw c0
                have c1 := Ext.cell_some hxw c1
                have hwc := Ext.cell_some hxw hwc
                clear hj
                go_simp
                try go_bits
                first | rfl | (rw [if_pos (by omega), if_pos (by omega)]; go_simp; rfl) | (rw [if_pos (by omega)]; go_simp; rfl) | skip
              · have c0 := Ext.cell_some hxw c0
                have c1 := Ext.cell_some hxw c1
                have hwc := Ext.cell_some hxw hwc
                clear hj
                go_simp
                try go_bits
                first | rfl | (rw [if_pos (by omega), if_pos (by omega)]; go_simp; rfl) | (rw [if_pos (by omega)]; go_simp; rfl) | skip
              · have c0 := Ext.cell_some hxw c0
                have c1 := Ext.cell_some hxw c1
                have hwc := Ext.cell_some hxw hwc
                clear hj
                go_simp
                try go_bits
                exact HI.out.2.2 _ ((HZ.out.2.1.ext hxr).ext hxw) ((Reads.ext HZ.out.1 hxr).ext hxw) ((HZ.out.2.2.ext hxr).ext hxw)
              · have c0 := Ext.cell_some hxw c0
                have c1 := Ext.cell_some hxw c1
                have hwc := Ext.cell_some hxw hwc
                clear hj
                go_simp
                try go_bits
                first | rfl | (rw [if_pos (by omega), if_pos (by omega)]; go_simp; rfl) | (rw [if_pos (by omega)]; go_simp; rfl) | skip
            case' hx9_5_p =>
              intro vs w9 hx9 hk
              clear hk
              replace c0 := Ext.cell_some hx9 c0
              replace c1 := Ext.cell_some hx9 c1
              replace hwc := Ext.cell_some hx9 hwc
              replace hown := Own.ext hown hx9
              replace hw := Own.ext hw hx9
              replace b5 := Blk.ext b5 hx9
              replace hxr := Ext.trans hxr hx9
              go_simp
              have HQ := Lib.hid (show scells (candTo K F st k (q + 1)) = scells (candTo K F st k q) ++ [.string (mkS u)] by rw [candTo_take (F := F) (st := st) HT.out.1 (by rw [HT.out.2]; rfl)]; simp [scells])
              have hlen : (candTo K F st k q).length ≤ 200 := cand_card hK3 F st (k := k) (j := q) hk4 (.inl hk)
              have hl1 : (scells (candTo K F st k q)).length + 1 ≤ maxLen := by rw [scells_length]; unfold maxLen; omega
              have hl2 : ((scells (candTo K F st k q)).length + 1) * 16 ≤ 140737488355328 := by rw [scells_length]; omega
              have HG := Lib.hid (And.intro hown (And.intro hw (And.intro b5 (And.intro hxr (And.intro hl1 (And.intro hl2 (And.intro b5.lt (World.ownsRow.lt hw gw rfl).2)))))))
              have p1 := b5.cell 1 z rfl
              clear hx9 c0 c1 hwc hown hw hxr b5 hl1 hl2 hlen
              go_wp2_with (at_builtin; refine wpList_append_one rfl (.tmp 57) (.tmp 59) 24 rfl 9 _ _ Tryz.underlying24 infoStr rfl w3.heap.size _ _ rfl (HG.out.1.ext (Ext.alloc _ _)) w9.heap.size _ rfl (by simp; rfl) rfl HG.out.2.2.2.2.1 HG.out.2.2.2.2.2.1 w3 rfl (HG.out.2.2.2.1.trans (Ext.alloc _ _)) ?_; intro v' w10 hown10 hx10 hmv; obtain ⟨av, nv, cv, hv⟩ := own_slice hown10; subst hv; have b10 := GB.blk hmv.1 (Blk.old HG.out.2.2.1) (fun e => (HP.out _ e).1 rfl); have d1 := b10.cell 1 z rfl; have e1 := b10.frozen 1; have hw10 := GB.own hmv.1 (HG.out.2.1.ext (Ext.alloc _ _)) (fun k hk e => (HP.out _ e).2 (by simp [Value.ownBlock] at hk; omega)); have H10 := Lib.hid (And.intro hown10 (And.intro hx10 (And.intro hmv (And.intro b10 hw10)))); clear hown10 hx10 hmv b10 hw10 p1)
              have hsep' : ∀ j, (Value.slice av nv cv).ownBlock = some j → j ≠ w3.heap.size ∧ j ≠ gw := by
                intro j hj
                rcases H10.out.2.2.1.2 with h | h
                · exact HP.out j (h.symm.trans hj)
                · have h1 := h j hj
                  have h2 := HG.out.2.2.2.2.2.2.1
                  have h3 := HG.out.2.2.2.2.2.2.2
                  rw [World.size_alloc] at h1
                  omega
              have b11 := H10.out.2.2.2.1.set (i := 1) (by simp) (.slice av nv cv)
              have o11 := GB.own (GB.setCell (GB.refl w10 (some w3.heap.size)) 1 (.slice av nv cv)) H10.out.1 (fun j hj e => (hsep' j hj).1 (by injection e with e; exact e.symm))
              have w11 := GB.own (GB.setCell (GB.refl w10 (some w3.heap.size)) 1 (.slice av nv cv)) H10.out.2.2.2.2 (fun j hj e => hgw3 (by have h1 : some gw = some j := hj; have h2 : some w3.heap.size = some j := e; injection h1 with h1; injection h2 with h2; omega))
              have x11 := H10.out.2.1.setCell (p := ⟨w3.heap.size, 1, none⟩) (Nat.le_refl _) (.slice av nv cv)
              rw [← HQ.out] at o11
              have H11 := Lib.hid (And.intro b11 (And.intro o11 (And.intro hsep' (And.intro w11 x11))))
              clear b11 o11 hsep' w11 x11
              go_wp2
              go_roundw
              case rel => exact ⟨q + 1, (.slice av nv cv), by omega, by go_num, H11.out.1, H11.out.2.1, H11.out.2.2.1, H11.out.2.2.2.1, H11.out.2.2.2.2⟩
              case measure => simp [intOf]; omega
        · have hqN : q = N := by omega
          have hrow := candTo_row (K := K) (F := F) (st := st) hk1
          rw [hqN, HW.out.1, hrow] at hown
          clear hrow
          have hsep' := fun j hj => (hsep j hj).1
          go_wp2
          go_roundw
          case rel => exact ⟨k + 1, z, by omega, by omega, by go_num, b5, hown, hsep', hxr⟩
          case measure => simp [intOf]; omega
    · have hk4' : k = 4 := by omega
      subst hk4'
      have hnd := candTo_nodup (wordsL_nodup hK0 hK3) F st 4 0
      have hcl : (putsR (candTo K F st 4 0)).length = (candTo K F st 4 0).length := (putsR_perm hnd).length_eq
      have hlen := cand_card hK3 F st (k := 4) (j := 0) (by omega) (.inr rfl)
      have hso := sort_own w3.heap.size z (candTo K F st 4 0) wm hown (by omega)
      rw [puts_sort hnd] at hso
      have hlow := fun j hj => (World.ownsRow.lt hown j hj).1
      obtain ⟨az, cz', rfl⟩ := (Own.readsW hown).slice
      have hne : ∀ (n c n' c' : Nat), (Value.slice az n c).ownBlock = (Value.slice az n' c').ownBlock := fun _ _ _ _ => by cases az <;> rfl
      obtain ⟨n8, hn8⟩ : ∃ n, n = (candTo K F st 4 0).length := ⟨_, rfl⟩
      rw [← hn8] at hcl hso hsep hlow
      have b5' : Blk wm w3.heap.size #[.int .i64 K, .slice az n8 cz'] := by rw [hn8]; exact b5
      have HX := Lib.hid (And.intro hso (And.intro hsep (And.intro b5' (And.intro hxr (And.intro hlow hne)))))
      have p1 := b5'.cell 1 (.slice az n8 cz') rfl
      clear b5'
      clear hnd hso hsep b5 hxr hlow hown hlen hne hn8
      go_wp2_with fail
      with_reducible refine HX.out.1.mono ?_
      rintro e w7 ⟨rfl, hown7, hgb7⟩
      have hx7 := HX.out.2.2.2.1.grown hgb7 (fun j hj => HX.out.2.2.2.2.1 j hj)
      have b7 := GB.blk hgb7 HX.out.2.2.1 (fun e => HX.out.2.1 _ e rfl)
      have hx3 := HB.out.2.2.1.lt
      have br := HB.out.2.2.1.ext hx7
      have bo := HB.out.2.2.2.ext hx7
      replace hx := hx.trans hx7
      have c0 := bo.cell 0 _ rfl
      have c1 := bo.cell 1 _ rfl
      have d0 := b7.cell 0 (.int .i64 K) rfl
      have d1 := b7.cell 1 (.slice az n8 cz') rfl
      clear p1 hgb7 b7 hx7
      by_cases h8 : n8 ≤ 8
      · have HN := Lib.hid (HY.out (by rw [hcl]; exact h8))
        have r0 := br.cell 0 _ rfl
        have r1 := br.cell 1 _ rfl
        have f0 := br.frozen 0
        have f1 := br.frozen 1
        have hlow := HX.out.2.2.2.2.1
        have HO := Lib.hid (And.intro hown7 hlow)
        clear hown7 br bo c0 c1 hcl hlow
        go_wp2
        have h1 := GB.own (GB.setCell (GB.refl w7 (some (w.heap.size + 1))) 0 (.int .i64 K)) HO.out.1 (fun j hj e => by have := HO.out.2 j hj; injection e with e; omega)
        have h2 := GB.own (GB.setCell (GB.refl _ (some (w.heap.size + 1))) 1 (.slice az n8 cz')) h1 (fun j hj e => by have := HO.out.2 j hj; injection e with e; omega)
        refine bodyPost_ret (v := .tuple #[.agg #[.int .i64 K, .slice az n8 cz'], .bool true]) ?_ rfl ⟨.slice az n8 cz', by unfold forbL; rw [HN.out]; rfl, by rw [HN.out]; exact h2.mono (by omega), (hx.setCell (by simp) _).setCell (by simp) _⟩
        simp [results, Tryz.results9, go_sem, r0, r1]
      · have HN := Lib.hid (HE.out.2.2.2.2.1 (by rw [hcl]; exact h8))
        clear hown7
        have r0 := br.cell 0 _ rfl
        have r1 := br.cell 1 _ rfl
        have f0 := br.frozen 0
        have f1 := br.frozen 1
        clear br bo c0 c1
        go_wp2
        refine bodyPost_ret (v := .tuple #[.agg #[.int .i64 0, .slice none 0 0], .bool false]) ?_ rfl ⟨.slice none 0 0, by unfold forbL; rw [HN.out]; rfl, by rw [HN.out]; exact Own.nil _ _ _, (hx.setCell (by simp) _).setCell (by simp) _⟩
        simp [results, Tryz.results9, go_sem, r0, r1]
end Go.Proofs.YtfiembmfkokllaaGreat

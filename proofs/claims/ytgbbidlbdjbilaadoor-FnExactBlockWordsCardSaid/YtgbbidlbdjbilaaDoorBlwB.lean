/- Contract: the words of a shift as pairs of indices, by the reference. -/
import Derived.Test.YtgbbidlbdjbilaaDoorBlwA
namespace Go.Proofs.YtgbbidlbdjbilaaDoor
open Go.RowKit Go.Cm

set_option maxRecDepth 100000 in
set_option maxHeartbeats 2000000 in
theorem spec_BlockWords_any (L n : Int) (v : Value) (F : List (List UInt8)) (w : World) (h : ReadsW w v F) (hF : ∀ f ∈ F, f.length ≤ maxLen) :
    Calls Tryd.prog 5 #[.agg #[.int .i64 L, v], .int .i64 n] w fun e w' => ∃ z, e = .returned z ∧ Own w' w.heap.size 9 z (scells (blockL L F n)) ∧ Ext w w' := by
  obtain ⟨pa, ca, rfl⟩ := h.slice
  have hx := (Ext.alloc w (.cells #[.int .i64 L, .slice pa F.length ca] 27)).trans (Ext.alloc _ (.cells #[] 9))
  have bo : Blk ((w.alloc (.cells #[.int .i64 L, .slice pa F.length ca] 27)).alloc (.cells #[] 9)) w.heap.size #[.int .i64 L, .slice pa F.length ca] := by (repeat (first | (refine Blk.mk' ?_; (simp; done)) | apply Blk.old))
  have hB0 : Own ((w.alloc (.cells #[.int .i64 L, .slice pa F.length ca] 27)).alloc (.cells #[] 9)) w.heap.size 9 (.slice (some ⟨w.heap.size + 1, 0, none⟩) 0 0) (scells []) := by
    have h := Own.lit (w.alloc (.cells #[.int .i64 L, .slice pa F.length ca] 27)) 9 [] (by simp)
    simp only [World.size_alloc, List.length_nil] at h
    exact h.mono (by omega)
  have c0 := bo.cell 0 (.int .i64 L) rfl
  have c1 := bo.cell 1 (.slice pa F.length ca) rfl
  have HS := Lib.hid (And.intro h hF)
  clear h
  obtain ⟨ok, hok⟩ : ∃ ok, ok = shiftOk L F := ⟨_, rfl⟩
  have hcall := fun w h => spec_IsShift_any L (.slice pa F.length ca) F w h hF
  rw [← hok] at hcall
  have HC := Lib.hid (And.intro hcall hok)
  clear hcall hok hF
  cases ok
  · have HN := Lib.hid (blockL_no (n := n) (.inl HC.out.2.symm))
    go_enter Tryd.func5, Tryd.ntmps5
    go_wp2_with fail
    with_reducible refine (HC.out.1 _ (HS.out.1.ext hx)).mono ?_
    rintro e w1 ⟨rfl, hy⟩
    replace hx := hx.trans hy
    replace bo := bo.ext hy
    replace hB0 := hB0.ext hy
    replace c0 := hy.cell_some c0
    replace c1 := hy.cell_some c1
    clear hy
    clear bo c0 c1
    go_wp2
    go_ret
    exact ⟨_, rfl, by rw [HN.out]; exact hB0, hx⟩
  by_cases hr : n < 1 ∨ 3 < n
  · have HN := Lib.hid (blockL_no (L := L) (F := F) (n := n) (.inr hr))
    have HI := Lib.hid (fun w => spec_l1In_no n 1 3 w hr)
    go_enter Tryd.func5, Tryd.ntmps5
    go_wp2_with fail
    with_reducible refine (HC.out.1 _ (HS.out.1.ext hx)).mono ?_
    rintro e w1 ⟨rfl, hy⟩
    replace hx := hx.trans hy
    replace bo := bo.ext hy
    replace hB0 := hB0.ext hy
    replace c0 := hy.cell_some c0
    replace c1 := hy.cell_some c1
    clear hy
    go_wp2_with fail
    with_reducible refine (HI.out _).mono ?_
    rintro e w2 ⟨rfl, rfl⟩
    clear bo c0 c1
    go_wp2
    go_ret
    exact ⟨_, rfl, by rw [HN.out]; exact hB0, hx⟩
  obtain ⟨m, rfl⟩ : ∃ m : Nat, n = (m : Int) := ⟨n.toNat, by omega⟩
  have hm1 : 1 ≤ m := by omega
  have hm3 : m ≤ 3 := by omega
  have HI1 := Lib.hid (fun w => spec_l1In_yes m 1 3 w (by omega) (by omega))
  clear hr
  obtain ⟨K, rfl, hf⟩ := ShFit.of HC.out.2.symm
  have hK3 := hf.k3
  have hl1 := fun w h => spec_LanguageOf_any K m (.slice pa F.length ca) F w h HS.out.2
  have hl2 := fun w h => spec_LanguageOf_any K ((m : Int) + 1) (.slice pa F.length ca) F w h HS.out.2
  have hyes := fun h => blockL_yes (n := m) hf hm1 hm3 h
  have hmuch := fun h => blockL_much (L := K) (F := F) (n := m) h
  have e2 := langOf_yes (n := m + 1) hf (by omega)
  simp only [Int.natCast_add, Int.natCast_one] at e2
  simp only [e2] at hl2
  rw [langOf_yes (n := m) hf (by omega)] at hmuch
  simp only [langOf_yes (n := m) hf (by omega)] at hl1
  have hA81 := langBound hK3 F (n := m) (by omega)
  have hB81 := langBound hK3 F (n := m + 1) (by omega)
  have hBw : ∀ u ∈ languageL K F (m + 1), u.length = m + 1 := fun u hu => languageL_word hu
  obtain ⟨A, hA⟩ : ∃ A, A = languageL K F m := ⟨_, rfl⟩
  obtain ⟨B, hB⟩ : ∃ B, B = languageL K F (m + 1) := ⟨_, rfl⟩
  rw [← hA] at hl1 hyes hmuch hA81
  rw [← hB] at hl2 hyes hB81 hBw
  have HL := Lib.hid (And.intro hl1 (And.intro hl2 (And.intro hyes (And.intro hmuch hBw))))
  clear hl1 hl2 hyes hmuch hBw hA hB hf e2
  go_enter Tryd.func5, Tryd.ntmps5
  go_wp2_with fail
  with_reducible refine (HC.out.1 _ (HS.out.1.ext hx)).mono ?_
  rintro e w1 ⟨rfl, hy⟩
  replace hx := hx.trans hy
  replace bo := bo.ext hy
  replace hB0 := hB0.ext hy
  replace c0 := hy.cell_some c0
  replace c1 := hy.cell_some c1
  clear hy
  go_wp2_with fail
  with_reducible refine (HI1.out _).mono ?_
  rintro e w1' ⟨rfl, rfl⟩
  go_wp2_with fail
  with_reducible refine (HL.out.1 _ (HS.out.1.ext hx)).mono ?_
  rintro e w2 ⟨z, rfl, hz, hy⟩
  have HLOW := Lib.hid (World.ownsRow.lt hB0 (w.heap.size + 1) rfl).2
  replace hx := hx.trans hy
  replace bo := bo.ext hy
  replace hB0 := hB0.ext hy
  replace c0 := hy.cell_some c0
  replace c1 := hy.cell_some c1
  clear hy
  obtain ⟨pz, cz, rfl⟩ := (Own.readsW hz).slice
  have HZ := Lib.hid (Own.readsW hz)
  have HRZ := Lib.hid (fun j (hj : (Value.slice pz A.length cz).ownBlock = some j) => (World.ownsRow.lt hz j hj).1)
  obtain ⟨N, hN⟩ : ∃ N, N = A.length := ⟨_, rfl⟩
  rw [← hN] at hA81
  have HN1 := Lib.hid hN
  rw [← hN] at HZ HRZ ⊢
  clear hz hN
  go_wp2_with fail
  with_reducible refine (HL.out.2.1 _ (HS.out.1.ext hx)).mono ?_
  rintro e w3 ⟨y, rfl, hyo, hy⟩
  have hlow := (World.ownsRow.lt hB0 (w.heap.size + 1) rfl).2
  have HZ3 := Lib.hid (HZ.out.ext hy)
  replace hx := hx.trans hy
  replace bo := bo.ext hy
  replace hB0 := hB0.ext hy
  replace c0 := hy.cell_some c0
  replace c1 := hy.cell_some c1
  clear hy
  obtain ⟨M, hM⟩ : ∃ M, M = B.length := ⟨_, rfl⟩
  rw [← hM] at hB81
  have hysh : ∃ py cy, y = .slice py M cy := by
    obtain ⟨py, cy, hv⟩ := (Own.readsW hyo).slice
    exact ⟨py, cy, by rw [hM]; exact hv⟩
  obtain ⟨py, cy, rfl⟩ := hysh
  have HO := Lib.hid (And.intro hB0 (And.intro hyo (And.intro hM (And.intro (Ext.refl w3) (And.intro hx hlow)))))
  clear hB0 hyo hM c0 c1 bo hlow
  by_cases h10 : ¬ N ≤ 10
  · have HN := Lib.hid (HL.out.2.2.2.1 (by rw [← HN1.out]; exact h10))
    go_wp2
    go_loopw [5, 8] (fun v i wr => v = .slice (some ⟨w.heap.size + 1, 0, none⟩) 0 0 ∧ i = .int .i64 0 ∧ wr = w3) (fun _ i _ => 0)
    case atStart => exact ⟨rfl, rfl, rfl⟩
    case round =>
      obtain ⟨rfl, rfl, rfl⟩ := hrel
      have hd : decide ((N : Int) ≤ 10) = false := by simp; omega
      by_cases hM0 : 0 < M
      · go_wp2
        go_ret
        exact ⟨_, rfl, by rw [HN.out]; exact HO.out.1, HO.out.2.2.2.2.1⟩
      · go_wp2
        go_ret
        exact ⟨_, rfl, by rw [HN.out]; exact HO.out.1, HO.out.2.2.2.2.1⟩
  have h10 : N ≤ 10 := by omega
  have HN := Lib.hid (HL.out.2.2.1 (by rw [← HN1.out]; exact h10))
  go_wp2
  go_loopw [5, 8] (fun v i wr => ∃ k : Nat, k ≤ M ∧ i = .int .i64 k ∧ Own wr w.heap.size 9 v (scells ((B.take k).map (bwL A m))) ∧ Grew w3 (.slice (some ⟨w.heap.size + 1, 0, none⟩) 0 0) wr v ∧ Ext w wr) (fun _ i _ => M - (intOf i).toNat)
  case atStart => exact ⟨0, by omega, rfl, HO.out.1, Grew.refl _ _, HO.out.2.2.2.2.1⟩
  case round =>
    obtain ⟨k, hk, rfl, hown, hgr, hxr⟩ := hrel
    by_cases hlt : k < M
    · have hza := hgr.reads (u := .slice pz N cz) (fs := scells A) HZ3.out (by
        intro j hj e
        have h1 := HRZ.out j hj
        simp [Value.ownBlock] at e
        have h2 := HLOW.out
        omega)
      have hlM : k < B.length := by rw [← HO.out.2.2.1]; exact hlt
      have hrow := hgr.own HO.out.2.1 (by
        intro j hj e
        have h1 := (World.ownsRow.lt HO.out.2.1 j hj).1
        simp [Value.ownBlock] at e
        have h2 := HO.out.2.2.2.2.2
        omega)
      obtain ⟨bb, oo, rfl, hcell⟩ := (Own.readsW hrow).at k hlM
      have hug : B.getD k [] = B[k] := by rw [List.getD_eq_getElem?_getD, List.getElem?_eq_getElem hlM, Option.getD_some]
      obtain ⟨u, hu⟩ : ∃ u, u = B.getD k [] := ⟨_, rfl⟩
      rw [← hu] at hcell hug
      have hul : u.length = m + 1 := HL.out.2.2.2.2 u (by rw [hug]; exact List.getElem_mem hlM)
      have htk : (B.take (k + 1)).map (bwL A m) = (B.take k).map (bwL A m) ++ [bwL A m u] := by
        rw [List.take_succ_eq_append_getElem hlM, List.map_append, hug]
        rfl
      have hsu : (mkS u).size = m + 1 := by rw [mkS_size, hul]
      have hsl1 := mkS_tail u 1
      have hsl2 := mkS_head u m
      rw [hsu] at hsl1
      obtain ⟨d, hd⟩ : ∃ d, d = u.drop 1 := ⟨_, rfl⟩
      obtain ⟨a, ha⟩ : ∃ a, a = u.take m := ⟨_, rfl⟩
      rw [← hd] at hsl1
      rw [← ha] at hsl2
      have hi1 := fun w h => spec_l10Index_any (.slice pz N cz) A a w h (by rw [← HN1.out]; omega)
      have hi2 := fun w h => spec_l10Index_any (.slice pz N cz) A d w h (by rw [← HN1.out]; omega)
      have hAl : A.length ≤ 10 := by rw [← HN1.out]; exact h10
      have hb1 := idxW_bd A a
      have hb2 := idxW_bd A d
      obtain ⟨i1, hi1d⟩ : ∃ i, i = idxW A a := ⟨_, rfl⟩
      obtain ⟨i2, hi2d⟩ : ∃ i, i = idxW A d := ⟨_, rfl⟩
      rw [← hi1d] at hi1 hb1
      rw [← hi2d] at hi2 hb2
      have hf1 := fun w => spec_FormatInt_any i1 w (by omega) (by omega)
      have hf2 := fun w => spec_FormatInt_any i2 w (by omega) (by omega)
      have hl1 := itoa_len (z := i1) (by omega) (by omega)
      have hl2 := itoa_len (z := i2) (by omega) (by omega)
      have hbw : bwL A m u = Lib.itoa i1 ++ Lib.itoa i2 := by rw [hi1d, hi2d, ha, hd]; rfl
      have hcat : mkS (Lib.itoa i1) ++ mkS (Lib.itoa i2) = mkS (bwL A m u) := by rw [mkS_append, hbw]
      have hz1 : (mkS (Lib.itoa i1)).size ≤ 21 := by rw [mkS_size]; exact hl1
      have hz2 : (mkS (Lib.itoa i2)).size ≤ 21 := by rw [mkS_size]; exact hl2
      obtain ⟨s1, hs1⟩ : ∃ s, s = mkS (Lib.itoa i1) := ⟨_, rfl⟩
      obtain ⟨s2, hs2⟩ : ∃ s, s = mkS (Lib.itoa i2) := ⟨_, rfl⟩
      obtain ⟨x, hxd⟩ : ∃ x, x = bwL A m u := ⟨_, rfl⟩
      rw [← hs1] at hf1 hcat hz1
      rw [← hs2] at hf2 hcat hz2
      have hs12 : ¬ 9223372036854775807 < s1.size + s2.size := by omega
      clear hAl hz1 hz2
      rw [← hxd] at hcat htk
      have hlr1 : (scells ((B.take k).map (bwL A m))).length + 1 ≤ maxLen := by rw [scells_length, List.length_map, List.length_take]; unfold maxLen; omega
      have hlr2 : ((scells ((B.take k).map (bwL A m))).length + 1) * 16 ≤ 140737488355328 := by rw [scells_length, List.length_map, List.length_take]; omega
      have HI := Lib.hid (And.intro hi1 (And.intro hi2 (And.intro hf1 (And.intro hf2 (And.intro htk (And.intro hlr1 hlr2))))))
      have HR := Lib.hid (And.intro (show ReadsW wr (.slice pz N cz) A from hza) (And.intro trivial (And.intro hown (And.intro hgr hxr))))
      have h1u : (1 : Int) ≤ (m : Int) + 1 := by omega
      clear hlM hrow hug hu hul hd ha hi1 hi2 hb1 hb2 hi1d hi2d hf1 hf2 hl1 hl2 hbw hs1 hs2 hxd htk hlr1 hlr2 hown hgr hza
      go_wp2
      refine wp_region_hoist (by kernel_rfl) 0 37 5 20 (.known ?hx4_2_v0 :: .known ?hx4_2_v1 :: .known ?hx4_2_v2 :: .known ?hx4_2_v3 :: .known ?hx4_2_v4 :: .known ?hx4_2_v5 :: .known ?hx4_2_v6 :: .known ?hx4_2_v7 :: .known (.int .i64 i1) :: .known (.string s1) :: .known ?hx4_2_v10 :: .known ?hx4_2_v11 :: .known ?hx4_2_v12 :: .known ?hx4_2_v13 :: .known ?hx4_2_v14 :: .known ?hx4_2_v15 :: .known (.int .i64 i2) :: .known (.string s2) :: .known ?hx4_2_v18 :: .box ?hx4_2_v19 :: []) rfl (by decide) (by decide) (by kernel_rfl) (by kernel_rfl) (by kernel_rfl) ?hx4_2_f ?hx4_2_s ?hx4_2_p
      case hx4_2_s =>
        intro vs
        refine ⟨fun w' hxw hj => ?_, fun w' hxw hj => ?_, fun w' hxw hj => ?_, fun w' hxw hj => ?_, fun w' hxw hj => ?_, fun w' hxw hj => ?_, fun w' hxw hj => ?_, fun w' hxw hj => ?_, fun w' hxw hj => ?_, fun w' hxw hj => ?_, fun w' hxw hj => ?_, fun w' hxw hj => ?_, fun w' hxw hj => ?_, fun w' hxw hj => ?_, fun w' hxw hj => ?_, fun w' hxw hj => ?_, fun w' hxw hj => ?_, fun w' hxw hj => ?_, fun w' hxw hj => ?_, fun w' hxw hj => ?_, trivial⟩
        · have hcell := Ext.cell_some hxw hcell
          clear hj
          go_simp
          try go_bits
          first | rfl | (rw [if_pos (by omega), if_pos (by omega)]; go_simp; rfl) | (rw [if_pos (by omega)]; go_simp; rfl) | skip
        · have hcell := Ext.cell_some hxw hcell
          clear hj
          go_simp
          try go_bits
          first | rfl | (rw [if_pos (by omega), if_pos (by omega)]; go_simp; rfl) | (rw [if_pos (by omega)]; go_simp; rfl) | skip
        · have hcell := Ext.cell_some hxw hcell
          clear hj
          go_simp
          try go_bits
          first | rfl | (rw [if_pos (by omega), if_pos (by omega)]; go_simp; rfl) | (rw [if_pos (by omega)]; go_simp; rfl) | skip
        · have hcell := Ext.cell_some hxw hcell
          clear hj
          go_simp
          try go_bits
          first | rfl | (rw [if_pos (by omega), if_pos (by omega)]; go_simp; rfl) | (rw [if_pos (by omega)]; go_simp; rfl) | skip
        · have hcell := Ext.cell_some hxw hcell
          clear hj
          go_simp
          try go_bits
          first | rfl | (rw [if_pos (by omega), if_pos (by omega)]; go_simp; rfl) | (rw [if_pos (by omega)]; go_simp; rfl) | skip
        · have hcell := Ext.cell_some hxw hcell
          clear hj
          go_simp
          try go_bits
          first | rfl | (rw [if_pos (by omega), if_pos (by omega)]; go_simp; rfl) | (rw [if_pos (by omega)]; go_simp; rfl) | skip
        · have hcell := Ext.cell_some hxw hcell
          clear hj
          go_simp
          try go_bits
          first | rfl | (rw [if_pos (by omega), if_pos (by omega)]; go_simp; rfl) | (rw [if_pos (by omega)]; go_simp; rfl) | skip
        · have hcell := Ext.cell_some hxw hcell
          clear hj
          go_simp
          try go_bits
          first | rfl | (rw [if_pos (by omega), if_pos (by omega)]; go_simp; rfl) | (rw [if_pos (by omega)]; go_simp; rfl) | skip
        · have hcell := Ext.cell_some hxw hcell
          clear hj
          go_simp
          try go_bits
          exact HI.out.1 _ (HR.out.1.ext hxw)
        · have hcell := Ext.cell_some hxw hcell
          clear hj
          go_simp
          try go_bits
          exact HI.out.2.2.1 _
        · have hcell := Ext.cell_some hxw hcell
          clear hj
          go_simp
          try go_bits
          first | rfl | (rw [if_pos (by omega), if_pos (by omega)]; go_simp; rfl) | (rw [if_pos (by omega)]; go_simp; rfl) | skip
        · have hcell := Ext.cell_some hxw hcell
          clear hj
          go_simp
          try go_bits
          first | rfl | (rw [if_pos (by omega), if_pos (by omega)]; go_simp; rfl) | (rw [if_pos (by omega)]; go_simp; rfl) | skip
        · have hcell := Ext.cell_some hxw hcell
          clear hj
          go_simp
          try go_bits
          first | rfl | (rw [if_pos (by omega), if_pos (by omega)]; go_simp; rfl) | (rw [if_pos (by omega)]; go_simp; rfl) | skip
        · have hcell := Ext.cell_some hxw hcell
          clear hj
          go_simp
          try go_bits
          first | rfl | (rw [if_pos (by omega), if_pos (by omega)]; go_simp; rfl) | (rw [if_pos (by omega)]; go_simp; rfl) | skip
        · have hcell := Ext.cell_some hxw hcell
          clear hj
          go_simp
          try go_bits
          first | rfl | (rw [if_pos (by omega), if_pos (by omega)]; go_simp; rfl) | (rw [if_pos (by omega)]; go_simp; rfl) | skip
        · have hcell := Ext.cell_some hxw hcell
          clear hj
          go_simp
          try go_bits
          first | rfl | (rw [if_pos (by omega), if_pos (by omega)]; go_simp; rfl) | (rw [if_pos (by omega)]; go_simp; rfl) | skip
        · have hcell := Ext.cell_some hxw hcell
          clear hj
          go_simp
          try go_bits
          exact HI.out.2.1 _ (HR.out.1.ext hxw)
        · have hcell := Ext.cell_some hxw hcell
          clear hj
          go_simp
          try go_bits
          exact HI.out.2.2.2.1 _
        · have hcell := Ext.cell_some hxw hcell
          clear hj
          go_simp
          try go_bits
          first | rfl | (rw [if_pos (by omega), if_pos (by omega)]; go_simp; rfl) | (rw [if_pos (by omega)]; go_simp; rfl) | skip
        · have hcell := Ext.cell_some hxw hcell
          clear hj
          go_simp
          try go_bits
          exact boxOf_new _ _ _
      case hx4_2_f => (intro s v w hs hv; cases hs; exact hv)
      case' hx4_2_p =>
        intro vs w4 hx4 hk
        have k19 : BoxOf _ (vs 19) w4 := hk 19 _ rfl
        clear hk
        replace hcell := Ext.cell_some hx4 hcell
        go_simp
        obtain ⟨bx, hbx, hcx⟩ := k19
        clear hcell
        have HB := Lib.hid (And.intro (HR.out.2.2.1.ext hx4) (HR.out.2.2.2.2.trans hx4))
        rw [hbx]
        go_wp2_with (at_builtin; refine wpList_append_one rfl (.tmp 37) (.tmp 56) 22 rfl 9 _ _ Tryd.underlying22 infoStr rfl w.heap.size _ _ rfl HB.out.1 bx _ rfl hcx rfl HI.out.2.2.2.2.2.1 HI.out.2.2.2.2.2.2 w rfl HB.out.2 ?_; intro v' w5 hown5 hx5 hmv)
        refine (onlyN_normal _ _ _).2 ?_
        go_wp2
        go_roundw
        case rel => exact ⟨k + 1, by omega, by go_num, by rw [HI.out.2.2.2.2.1]; simpa [scells] using hown5, (HR.out.2.2.2.1.ext hx4).step hmv, hx5⟩
        case measure => simp [intOf]; omega
    · have hkM : k = M := by omega
      subst hkM
      have htk : B.take k = B := List.take_of_length_le (by rw [← HO.out.2.2.1]; exact Nat.le_refl _)
      rw [htk] at hown
      have HH := Lib.hid (And.intro hown hxr)
      clear hown hxr hgr htk
      go_wp2
      go_ret
      exact ⟨_, rfl, by rw [HN.out]; exact HH.out.1, HH.out.2⟩
end Go.Proofs.YtgbbidlbdjbilaaDoor

/- Contracts: the avoiding words, the pairs that go on, the language of a shift, by the reference. -/
import Derived.Test.YtfiembmfkokllaaGreatShE
namespace Go.Proofs.YtfiembmfkokllaaGreat
open Go.RowKit Go.Cm

set_option maxRecDepth 100000 in
set_option maxHeartbeats 2000000 in
theorem spec_l3Words_any (K n : Nat) (v : Value) (F : List (List UInt8)) (w : World) (hK0 : 0 < K) (hK3 : K ≤ 3) (hn : n ≤ 6) (h : ReadsW w v F) (hF : ∀ f ∈ F, f.length ≤ 1048576) :
    Calls Tryz.prog 80 #[.agg #[.int .i64 K, v], .int .i64 n] w fun e w' => ∃ z, e = .returned z ∧ Own w' w.heap.size 9 z (scells (avoidsN K F n)) ∧ Ext w w' := by
  obtain ⟨pa, ca, rfl⟩ := h.slice
  have hx := Ext.alloc w (.cells #[.int .i64 K, .slice pa F.length ca] 26)
  have bo : Blk ((w.alloc (.cells #[.int .i64 K, .slice pa F.length ca] 26)).alloc (.cells #[] 9)) w.heap.size #[.int .i64 K, .slice pa F.length ca] := by (repeat (first | (refine Blk.mk' ?_; (simp; done)) | apply Blk.old))
  have HS := Lib.hid (And.intro h hF)
  clear h hF
  have hNb := words_pow hK3 hn
  obtain ⟨N, hN⟩ : ∃ N, N = K ^ n := ⟨_, rfl⟩
  have hNp : 0 < N := by rw [hN]; exact Nat.pow_pos hK0
  have hN27 : N ≤ 729 := by omega
  have HN := Lib.hid hN
  clear hN hNb
  go_enter Tryz.func80, Tryz.ntmps80
  go_wp2_with fail
  with_reducible refine (spec_l2All_any K n _ hK0 hK3 (by omega)).mono ?_
  rintro e w2 ⟨v35, rfl, hw, hx2⟩
  have bo2 := bo.ext hx2
  have hwl : (scells (wordsL K n)).length = N := by rw [HN.out]; simp [scells, wordsL]
  have hsh := hw.shape
  rw [hwl] at hsh
  rcases hsh with ⟨_, hnil⟩ | ⟨g, cp, rfl, hg, _, _, _⟩
  · exfalso
    rw [hnil] at hwl
    simp at hwl
    omega
  have hg' : w.heap.size + 1 < g := by simp at hg; omega
  clear hg
  have hxw := (hx.trans (Ext.alloc _ (.cells #[] 9))).trans hx2
  have hB0 : Own w2 w.heap.size 9 (.slice (some ⟨w.heap.size + 1, 0, none⟩) 0 0) [] := by
    have h := (Own.lit (w.alloc (.cells #[.int .i64 K, .slice pa F.length ca] 26)) 9 [] (by simp)).ext hx2
    simp only [World.size_alloc, List.length_nil] at h
    exact h.mono (by omega)
  clear hx2 bo hx
  have HWL := Lib.hid hwl
  clear hwl
  have hbl := bo2.lt
  go_wp2
  go_loopw [5, 7] (fun v i wr => ∃ k : Nat, k ≤ N ∧ i = .int .i64 k ∧ Own wr w.heap.size 9 v (scells (((wordsL K n).take k).filter (avoidL F))) ∧ Grew w2 (.slice (some ⟨w.heap.size + 1, 0, none⟩) 0 0) wr v ∧ Ext w wr) (fun _ i _ => N - (intOf i).toNat)
  case atStart => exact ⟨0, by omega, rfl, hB0, Grew.refl _ _, hxw⟩
  case round =>
    clear hB0 hxw
    obtain ⟨k, hk, rfl, hown, hgr, hxr⟩ := hrel
    by_cases hlt : k < N
    · have hlw : k < (wordsL K n).length := by have := HWL.out; rw [scells_length] at this; omega
      have hwc : wr.cell? ⟨g, k, none⟩ = some (.string (mkS (wordsL K n)[k])) := by
        have := (hgr.own hw (by intro j hj; simp [Value.ownBlock] at hj ⊢; omega)).cell k (by rw [HWL.out]; exact hlt)
        simpa [scells] using this
      obtain ⟨u, hu⟩ : ∃ u, u = (wordsL K n)[k] := ⟨_, rfl⟩
      rw [← hu] at hwc
      have hmem : u ∈ wordsL K n := by rw [hu]; exact List.getElem_mem _
      have htk : (wordsL K n).take (k + 1) = (wordsL K n).take k ++ [u] := by rw [hu]; exact List.take_succ_eq_append_getElem hlw
      have hle : (((wordsL K n).take k).filter (avoidL F)).length ≤ k := Nat.le_trans (List.length_filter_le _ _) (by rw [List.length_take]; omega)
      have hul : u.length ≤ 1048576 := by rw [wordsL_len hmem]; omega
      obtain ⟨G, hG⟩ : ∃ G, G = avoidL F u := ⟨_, rfl⟩
      have hcall := fun w h => spec_l3Avoids_any (.slice pa F.length ca) F u w h HS.out.2 hul
      rw [← hG] at hcall
      have HT := Lib.hid (And.intro hcall (And.intro htk (And.intro hle hG)))
      have HW := Lib.hid hw
      clear hu hmem htk hlw hw hle hG hcall hul
      have c0 := hgr.cell (bo2.cell 0 (.int .i64 K) rfl) (by simp [Value.ownBlock])
      have c1 := hgr.cell (bo2.cell 1 (.slice pa F.length ca) rfl) (by simp [Value.ownBlock])
      cases G
      · have HF := Lib.hid (show ((wordsL K n).take (k + 1)).filter (avoidL F) = ((wordsL K n).take k).filter (avoidL F) by rw [HT.out.2.1, List.filter_append, List.filter_cons_of_neg (by rw [← HT.out.2.2.2]; simp)]; exact List.append_nil _)
        go_wp2
        refine wp_region_inv (by kernel_rfl) (.known ?hx3_52_v0 :: .known ?hx3_52_v1 :: .known ?hx3_52_v2 :: .known ?hx3_52_v3 :: .known ?hx3_52_v4 :: .known ?hx3_52_v5 :: .known (.bool false) :: []) rfl (by kernel_rfl) ?hx3_52_s ?hx3_52_p
        case hx3_52_s =>
          intro vs
          refine ⟨fun w' hxw hj => ?_, fun w' hxw hj => ?_, fun w' hxw hj => ?_, fun w' hxw hj => ?_, fun w' hxw hj => ?_, fun w' hxw hj => ?_, fun w' hxw hj => ?_, trivial⟩
          · have c0 := Ext.cell_some hxw c0
            have c1 := Ext.cell_some hxw c1
            have hwc := Ext.cell_some hxw hwc
            clear hj
            go_simp
            try go_bits
            first | rfl | (rw [if_pos (by omega), if_pos (by omega)]; go_simp; rfl) | (rw [if_pos (by omega)]; go_simp; rfl) | skip
          · have c0 := Ext.cell_some hxw c0
            have c1 := Ext.cell_some hxw c1
            have hwc := Ext.cell_some hxw hwc
            clear hj
            go_simp
            try go_bits
            first | rfl | (rw [if_pos (by omega), if_pos (by omega)]; go_simp; rfl) | (rw [if_pos (by omega)]; go_simp; rfl) | skip
          · have c0 := Ext.cell_some hxw c0
            have c1 := Ext.cell_some hxw c1
            have hwc := Ext.cell_some hxw hwc
            clear hj
            go_simp
            try go_bits
            first | rfl | (rw [if_pos (by omega), if_pos (by omega)]; go_simp; rfl) | (rw [if_pos (by omega)]; go_simp; rfl) | skip
          · have c0 := Ext.cell_some hxw c0
            have c1 := Ext.cell_some hxw c1
            have hwc := Ext.cell_some hxw hwc
            clear hj
            go_simp
            try go_bits
            first | rfl | (rw [if_pos (by omega), if_pos (by omega)]; go_simp; rfl) | (rw [if_pos (by omega)]; go_simp; rfl) | skip
          · have c0 := Ext.cell_some hxw c0
            have c1 := Ext.cell_some hxw c1
            have hwc := Ext.cell_some hxw hwc
            clear hj
            go_simp
            try go_bits
            first | rfl | (rw [if_pos (by omega), if_pos (by omega)]; go_simp; rfl) | (rw [if_pos (by omega)]; go_simp; rfl) | skip
          · have c0 := Ext.cell_some hxw c0
            have c1 := Ext.cell_some hxw c1
            have hwc := Ext.cell_some hxw hwc
            clear hj
            go_simp
            try go_bits
            first | rfl | (rw [if_pos (by omega), if_pos (by omega)]; go_simp; rfl) | (rw [if_pos (by omega)]; go_simp; rfl) | skip
          · have c0 := Ext.cell_some hxw c0
            have c1 := Ext.cell_some hxw c1
            have hwc := Ext.cell_some hxw hwc
            clear hj
            go_simp
            try go_bits
            exact (HT.out.1 _ ((HS.out.1.ext hxr).ext hxw)).mono fun _ _ ⟨h1, h2⟩ => ⟨h1, h2 ▸ Ext.refl _⟩
        case' hx3_52_p =>
          intro vs w3 hx3 hk
          clear hk
          replace c0 := Ext.cell_some hx3 c0
          replace c1 := Ext.cell_some hx3 c1
          replace hwc := Ext.cell_some hx3 hwc
          replace hown := Own.ext hown hx3
          replace hxr := Ext.trans hxr hx3
          replace hgr := hgr.ext hx3
          go_simp
          clear hx3 c0 c1 hwc
          go_wp2
          go_roundw
          case rel => exact ⟨k + 1, by omega, by go_num, by rw [HF.out]; exact hown, hgr, hxr⟩
          case measure => simp [intOf]; omega
      · have HF := Lib.hid (show ((wordsL K n).take (k + 1)).filter (avoidL F) = ((wordsL K n).take k).filter (avoidL F) ++ [u] by rw [HT.out.2.1, List.filter_append, List.filter_cons_of_pos (by exact HT.out.2.2.2.symm)]; rfl)
        have hl := HT.out.2.2.1
        have hl1 : (scells (((wordsL K n).take k).filter (avoidL F))).length + 1 ≤ maxLen := by rw [scells_length]; unfold maxLen; omega
        have hl2 : ((scells (((wordsL K n).take k).filter (avoidL F))).length + 1) * 16 ≤ 140737488355328 := by rw [scells_length]; omega
        clear hl
        go_wp2
        refine wp_region_inv (by kernel_rfl) (.known ?hx3_53_v0 :: .known ?hx3_53_v1 :: .known ?hx3_53_v2 :: .known ?hx3_53_v3 :: .known ?hx3_53_v4 :: .known ?hx3_53_v5 :: .known (.bool true) :: []) rfl (by kernel_rfl) ?hx3_53_s ?hx3_53_p
        case hx3_53_s =>
          intro vs
          refine ⟨fun w' hxw hj => ?_, fun w' hxw hj => ?_, fun w' hxw hj => ?_, fun w' hxw hj => ?_, fun w' hxw hj => ?_, fun w' hxw hj => ?_, fun w' hxw hj => ?_, trivial⟩
          · have c0 := Ext.cell_some hxw c0
            have c1 := Ext.cell_some hxw c1
            have hwc := Ext.cell_some hxw hwc
            clear hj
            go_simp
            try go_bits
            first | rfl | (rw [if_pos (by omega), if_pos (by omega)]; go_simp; rfl) | (rw [if_pos (by omega)]; go_simp; rfl) | skip
          · have c0 := Ext.cell_some hxw c0
            have c1 := Ext.cell_some hxw c1
            have hwc := Ext.cell_some hxw hwc
            clear hj
            go_simp
            try go_bits
            first | rfl | (rw [if_pos (by omega), if_pos (by omega)]; go_simp; rfl) | (rw [if_pos (by omega)]; go_simp; rfl) | skip
          · have c0 := Ext.cell_some hxw c0
            have c1 := Ext.cell_some hxw c1
            have hwc := Ext.cell_some hxw hwc
            clear hj
            go_simp
            try go_bits
            first | rfl | (rw [if_pos (by omega), if_pos (by omega)]; go_simp; rfl) | (rw [if_pos (by omega)]; go_simp; rfl) | skip
          · have c0 := Ext.cell_some hxw c0
            have c1 := Ext.cell_some hxw c1
            have hwc := Ext.cell_some hxw hwc
            clear hj
            go_simp
            try go_bits
            first | rfl | (rw [if_pos (by omega), if_pos (by omega)]; go_simp; rfl) | (rw [if_pos (by omega)]; go_simp; rfl) | skip
          · have c0 := Ext.cell_some hxw c0
            have c1 := Ext.cell_some hxw c1
            have hwc := Ext.cell_some hxw hwc
            clear hj
            go_simp
            try go_bits
            first | rfl | (rw [if_pos (by omega), if_pos (by omega)]; go_simp; rfl) | (rw [if_pos (by omega)]; go_simp; rfl) | skip
          · have c0 := Ext.cell_some hxw c0
            have c1 := Ext.cell_some hxw c1
            have hwc := Ext.cell_some hxw hwc
            clear hj
            go_simp
            try go_bits
            first | rfl | (rw [if_pos (by omega), if_pos (by omega)]; go_simp; rfl) | (rw [if_pos (by omega)]; go_simp; rfl) | skip
          · have c0 := Ext.cell_some hxw c0
            have c1 := Ext.cell_some hxw c1
            have hwc := Ext.cell_some hxw hwc
            clear hj
            go_simp
            try go_bits
            exact (HT.out.1 _ ((HS.out.1.ext hxr).ext hxw)).mono fun _ _ ⟨h1, h2⟩ => ⟨h1, h2 ▸ Ext.refl _⟩
        case' hx3_53_p =>
          intro vs w3 hx3 hk
          clear hk
          replace c0 := Ext.cell_some hx3 c0
          replace c1 := Ext.cell_some hx3 c1
          replace hwc := Ext.cell_some hx3 hwc
          replace hown := Own.ext hown hx3
          replace hxr := Ext.trans hxr hx3
          replace hgr := hgr.ext hx3
          go_simp
          clear hx3 c0 c1
          have hgrA := hgr.ext (Ext.alloc w3 (.cells #[.string (mkS u)] 9))
          go_wp2_with (at_builtin; refine wpList_append_one rfl (.tmp 26) (.tmp 31) 24 rfl 9 _ _ Tryz.underlying24 infoStr rfl w.heap.size _ _ rfl (hown.ext (Ext.alloc _ _)) w3.heap.size _ rfl (by simp; rfl) rfl hl1 hl2 w rfl (hxr.trans (Ext.alloc _ _)) ?_; intro v' w4 hown4 hx4 hmv)
          have hgr4 := hgrA.step hmv
          go_roundw
          case rel => exact ⟨k + 1, by omega, by go_num, by rw [HF.out]; simpa [scells] using hown4, hgr4, hx4⟩
          case measure => simp [intOf]; omega
    · have : k = N := by omega
      subst this
      have htk : (wordsL K n).take k = wordsL K n := List.take_of_length_le (by have := HWL.out; rw [scells_length] at this; omega)
      rw [htk] at hown
      clear htk
      go_wp2
      go_ret
      exact ⟨_, rfl, hown, hxr⟩
end Go.Proofs.YtfiembmfkokllaaGreat

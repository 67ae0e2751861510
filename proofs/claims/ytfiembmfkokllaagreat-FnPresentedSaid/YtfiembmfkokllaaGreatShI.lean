/- Contracts: the language of a shift at whatever length, by the reference. -/
import Derived.Test.YtfiembmfkokllaaGreatShH
namespace Go.Proofs.YtfiembmfkokllaaGreat
open Go.RowKit Go.Cm

set_option maxRecDepth 100000 in
set_option maxHeartbeats 4000000 in
theorem spec_LanguageOf_any (L n : Int) (v : Value) (F : List (List UInt8)) (w : World) (h : ReadsW w v F) (hF : ∀ f ∈ F, f.length ≤ maxLen) :
    Calls Tryz.prog 24 #[.agg #[.int .i64 L, v], .int .i64 n] w fun e w' => ∃ z, e = .returned z ∧ Own w' w.heap.size 9 z (scells (langOf L F n)) ∧ Ext w w' := by
  obtain ⟨pa, ca, rfl⟩ := h.slice
  have hx := Ext.alloc w (.cells #[.int .i64 L, .slice pa F.length ca] 26)
  have hx0 := hx.trans (Ext.alloc _ (.cells #[] 9))
  have bo : Blk ((w.alloc (.cells #[.int .i64 L, .slice pa F.length ca] 26)).alloc (.cells #[] 9)) w.heap.size #[.int .i64 L, .slice pa F.length ca] := by (repeat (first | (refine Blk.mk' ?_; (simp; done)) | apply Blk.old))
  have hB0 : Own ((w.alloc (.cells #[.int .i64 L, .slice pa F.length ca] 26)).alloc (.cells #[] 9)) w.heap.size 9 (.slice (some ⟨w.heap.size + 1, 0, none⟩) 0 0) [] := by
    have h := Own.lit (w.alloc (.cells #[.int .i64 L, .slice pa F.length ca] 26)) 9 [] (by simp)
    simp only [World.size_alloc, List.length_nil] at h
    exact h.mono (by omega)
  have HS := Lib.hid (And.intro h hF)
  have HR := Lib.hid (h.ext hx0)
  clear h hF hx
  obtain ⟨ok, hok⟩ : ∃ ok, ok = shiftOk L F := ⟨_, rfl⟩
  have hcall := fun w h => spec_IsShift_any L (.slice pa F.length ca) F w h HS.out.2
  rw [← hok] at hcall
  obtain ⟨rg, hrg⟩ : ∃ r, r = (decide (0 ≤ n) && decide (n ≤ 6)) := ⟨_, rfl⟩
  have hcall2 := fun w => spec_l1In_any n 0 6 w
  rw [← hrg] at hcall2
  have HC := Lib.hid (And.intro hcall (And.intro hok (And.intro hcall2 hrg)))
  clear hcall hok hcall2 hrg
  have c0 := bo.cell 0 (.int .i64 L) rfl
  have c1 := bo.cell 1 (.slice pa F.length ca) rfl
  cases ok
  · have HN := Lib.hid (langOf_no (L := L) (F := F) (n := n) (.inl HC.out.2.1.symm))
    go_enter Tryz.func24, Tryz.ntmps24
    go_wp2_with fail
    with_reducible refine (HC.out.1 _ HR.out).mono ?_
    rintro e w1 ⟨rfl, hx1⟩
    have hxa := hx0.trans hx1
    replace hB0 := hB0.ext hx1
    clear hx0 hx1 c0 c1 bo
    go_wp2
    go_ret
    exact ⟨_, rfl, by rw [HN.out]; exact hB0, hxa⟩
  cases rg
  · have HN := Lib.hid (langOf_no (L := L) (F := F) (n := n) (by
      have := HC.out.2.2.2
      by_cases h0 : n < 0
      · exact .inr (.inl h0)
      · by_cases h6 : 6 < n
        · exact .inr (.inr h6)
        · rw [decide_eq_true (show 0 ≤ n by omega), decide_eq_true (show n ≤ 6 by omega)] at this
          cases this))
    go_enter Tryz.func24, Tryz.ntmps24
    go_wp2_with fail
    with_reducible refine (HC.out.1 _ HR.out).mono ?_
    rintro e w1 ⟨rfl, hx1⟩
    have hxa := hx0.trans hx1
    replace hB0 := hB0.ext hx1
    clear hx0 hx1 c0 c1 bo
    go_wp2_with fail
    with_reducible refine (HC.out.2.2.1 _).mono ?_
    rintro e w2 ⟨rfl, rfl⟩
    go_wp2
    go_ret
    exact ⟨_, rfl, by rw [HN.out]; exact hB0, hxa⟩
  obtain ⟨K, rfl, hf⟩ := ShFit.of HC.out.2.1.symm
  have hrr := HC.out.2.2.2
  have hn0 : 0 ≤ n ∧ n ≤ 6 := by simpa using hrr.symm
  obtain ⟨m, rfl⟩ := Int.eq_ofNat_of_zero_le hn0.1
  have hm6 : m ≤ 6 := by omega
  have hK1 := hf.k1
  have hK0 : 0 < K := by omega
  have hK3 := hf.k3
  have HN := Lib.hid (langOf_yes hf hm6)
  have HF := Lib.hid (show ∀ f ∈ F, f.length ≤ 1048576 from fun f hm => by have := (hf.word f hm).2.2; omega)
  clear hf hrr hn0
  have hNb := words_pow hK3 hm6
  obtain ⟨N, hN⟩ : ∃ N, N = K ^ m := ⟨_, rfl⟩
  have hNp : 0 < N := by rw [hN]; exact Nat.pow_pos hK0
  have hN27 : N ≤ 729 := by omega
  have HNN := Lib.hid hN
  clear hN hNb
  go_enter Tryz.func24, Tryz.ntmps24
  go_wp2_with fail
  with_reducible refine (HC.out.1 _ HR.out).mono ?_
  rintro e w1 ⟨rfl, hx1⟩
  have hxa := hx0.trans hx1
  replace hB0 := hB0.ext hx1
  replace bo := bo.ext hx1
  replace HR := Lib.hid (HR.out.ext hx1)
  clear hx0 hx1 c0 c1
  have c0 := bo.cell 0 (.int .i64 K) rfl
  have c1 := bo.cell 1 (.slice pa F.length ca) rfl
  go_wp2_with fail
  with_reducible refine (HC.out.2.2.1 _).mono ?_
  rintro e w2 ⟨rfl, rfl⟩
  go_wp2_with fail
  with_reducible refine (spec_l3Pairs_any K _ F _ hK0 hK3 HR.out HF.out).mono ?_
  rintro e w3 ⟨z, rfl, hz, hx3⟩
  obtain ⟨pz, cz, rfl⟩ := (Own.readsW hz).slice
  have hzb : ∀ j : Nat, (Value.slice pz (statesL K F).length cz).ownBlock = some j → (Value.slice (some ⟨w.heap.size + 1, 0, none⟩) 0 0).ownBlock ≠ some j := by
    intro j hj
    have h1 := (World.ownsRow.lt hz j hj).1
    have h2 := (World.ownsRow.lt hB0 (w.heap.size + 1) rfl).2
    simp [Value.ownBlock]
    omega
  replace hxa := hxa.trans hx3
  replace hB0 := hB0.ext hx3
  replace bo := bo.ext hx3
  have HZ := Lib.hid (And.intro (Own.readsW hz) (fun u hu => states_two (K := K) (F := F) u hu))
  clear hz hx3 c0 c1 HR
  obtain ⟨st, hst⟩ : ∃ st, st = statesL K F := ⟨_, rfl⟩
  have HE := Lib.hid (show ∀ x, hasS F st x = hasL F (statesL K F) x from fun x => by rw [hst]; exact hasS_eq (fun u hu => statesL_avoid hu) x)
  rw [← hst] at HZ hzb ⊢
  clear hst
  have c0 := bo.cell 0 (.int .i64 K) rfl
  have c1 := bo.cell 1 (.slice pa F.length ca) rfl
  go_wp2_with fail
  with_reducible refine (spec_l2All_any K m _ hK0 hK3 (by omega)).mono ?_
  rintro e w4 ⟨v35, rfl, hw, hx4⟩
  have hwl : (scells (wordsL K m)).length = N := by rw [HNN.out]; simp [scells, wordsL]
  have hsh := hw.shape
  rw [hwl] at hsh
  rcases hsh with ⟨_, hnil⟩ | ⟨g, cp, rfl, hg, _, _, _⟩
  · exfalso
    rw [hnil] at hwl
    simp at hwl
    omega
  have hbl := bo.lt
  have hg' : w.heap.size + 1 < g := by
    have h1 := (World.ownsRow.lt hB0 (w.heap.size + 1) rfl).2
    omega
  replace hxa := hxa.trans hx4
  replace hB0 := hB0.ext hx4
  replace bo := bo.ext hx4
  have HZ4 := Lib.hid (HZ.out.1.ext hx4)
  clear hx4 hg c0 c1
  have HWL := Lib.hid hwl
  clear hwl
  have HZB := Lib.hid hzb
  clear hzb
  go_wp2
  go_loopw [5, 8] (fun v i wr => ∃ k : Nat, k ≤ N ∧ i = .int .i64 k ∧ Own wr w.heap.size 9 v (scells (((wordsL K m).take k).filter (hasL F (statesL K F)))) ∧ Grew w4 (.slice (some ⟨w.heap.size + 1, 0, none⟩) 0 0) wr v ∧ Ext w wr) (fun _ i _ => N - (intOf i).toNat)
  case atStart => exact ⟨0, by omega, rfl, hB0, Grew.refl _ _, hxa⟩
  case round =>
    clear hB0 hxa
    obtain ⟨k, hk, rfl, hown, hgr, hxr⟩ := hrel
    by_cases hlt : k < N
    · have hlw : k < (wordsL K m).length := by have := HWL.out; rw [scells_length] at this; omega
      have hwc : wr.cell? ⟨g, k, none⟩ = some (.string (mkS (wordsL K m)[k])) := by
        have := (hgr.own hw (by intro j hj; simp [Value.ownBlock] at hj ⊢; omega)).cell k (by rw [HWL.out]; exact hlt)
        simpa [scells] using this
      obtain ⟨u, hu⟩ : ∃ u, u = (wordsL K m)[k] := ⟨_, rfl⟩
      rw [← hu] at hwc
      have hmem : u ∈ wordsL K m := by rw [hu]; exact List.getElem_mem _
      have htk : (wordsL K m).take (k + 1) = (wordsL K m).take k ++ [u] := by rw [hu]; exact List.take_succ_eq_append_getElem hlw
      have hle : (((wordsL K m).take k).filter (hasL F (statesL K F))).length ≤ k := Nat.le_trans (List.length_filter_le _ _) (by rw [List.length_take]; omega)
      have hul : u.length ≤ 1048576 := by rw [wordsL_len hmem]; omega
      obtain ⟨G, hG⟩ : ∃ G, G = hasL F (statesL K F) u := ⟨_, rfl⟩
      have hcall := fun w h hz => spec_l3In_any K (.slice pa F.length ca) (.slice pz st.length cz) F st u w h hz HF.out hul (fun u hu => by rw [HZ.out.2 u hu]; omega)
      rw [HE.out u, ← hG] at hcall
      have HT := Lib.hid (And.intro hcall (And.intro htk (And.intro hle hG)))
      have HW := Lib.hid hw
      have HZr := Lib.hid (Grew.reads hgr HZ4.out HZB.out)
      clear hu hmem htk hlw hw hle hG hcall hul
      have c0 := hgr.cell (bo.cell 0 (.int .i64 K) rfl) (by simp [Value.ownBlock])
      have c1 := hgr.cell (bo.cell 1 (.slice pa F.length ca) rfl) (by simp [Value.ownBlock])
      cases G
      · have HF2 := Lib.hid (show ((wordsL K m).take (k + 1)).filter (hasL F (statesL K F)) = ((wordsL K m).take k).filter (hasL F (statesL K F)) by rw [HT.out.2.1, List.filter_append, List.filter_cons_of_neg (by rw [← HT.out.2.2.2]; simp)]; exact List.append_nil _)
        go_wp2
        refine wp_region_inv (by kernel_rfl) (.known ?hx6_35_v0 :: .known ?hx6_35_v1 :: .known ?hx6_35_v2 :: .known ?hx6_35_v3 :: .known ?hx6_35_v4 :: .known ?hx6_35_v5 :: .known (.bool false) :: []) rfl (by kernel_rfl) ?hx6_35_s ?hx6_35_p
        case hx6_35_s =>
          intro vs
          refine ⟨fun w' hxw hj => ?_, fun w' hxw hj => ?_, fun w' hxw hj => ?_, fun w' hxw hj => ?_, fun w' hxw hj => ?_, fun w' hxw hj => ?_, fun w' hxw hj => ?_, trivial⟩
          · have c0 := Ext.cell_some hxw c0
            have c1 := Ext.cell_some hxw c1
            have hwc := Ext.cell_some hxw hwc
            clear hj
            go_simp
            try go_bits
            first | rfl | (rw [if_pos (by omega), if_pos (by omega)]; go_simp; rfl) | (rw [if_pos (by omega)]; go_simp; rfl) | skip
          · have c0 := Ext.cell_some hxw c0
            have c1 := Ext.cell_some hxw c1
            have hwc := Ext.cell_some hxw hwc
            clear hj
            go_simp
            try go_bits
            first | rfl | (rw [if_pos (by omega), if_pos (by omega)]; go_simp; rfl) | (rw [if_pos (by omega)]; go_simp; rfl) | skip
          · have c0 := Ext.cell_some hxw c0
            have c1 := Ext.cell_some hxw c1
            have hwc := Ext.cell_some hxw hwc
            clear hj
            go_simp
            try go_bits
            first | rfl | (rw [if_pos (by omega), if_pos (by omega)]; go_simp; rfl) | (rw [if_pos (by omega)]; go_simp; rfl) | skip
          · have c0 := Ext.cell_some hxw c0
            have c1 := Ext.cell_some hxw c1
            have hwc := Ext.cell_some hxw hwc
            clear hj
            go_simp
            try go_bits
            first | rfl | (rw [if_pos (by omega), if_pos (by omega)]; go_simp; rfl) | (rw [if_pos (by omega)]; go_simp; rfl) | skip
          · have c0 := Ext.cell_some hxw c0
            have c1 := Ext.cell_some hxw c1
            have hwc := Ext.cell_some hxw hwc
            clear hj
            go_simp
            try go_bits
            first | rfl | (rw [if_pos (by omega), if_pos (by omega)]; go_simp; rfl) | (rw [if_pos (by omega)]; go_simp; rfl) | skip
          · have c0 := Ext.cell_some hxw c0
            have c1 := Ext.cell_some hxw c1
            have hwc := Ext.cell_some hxw hwc
            clear hj
            go_simp
            try go_bits
            first | rfl | (rw [if_pos (by omega), if_pos (by omega)]; go_simp; rfl) | (rw [if_pos (by omega)]; go_simp; rfl) | skip
          · have c0 := Ext.cell_some hxw c0
            have c1 := Ext.cell_some hxw c1
            have hwc := Ext.cell_some hxw hwc
            clear hj
            go_simp
            try go_bits
            exact HT.out.1 _ ((HS.out.1.ext hxr).ext hxw) (Reads.ext HZr.out hxw)
        case' hx6_35_p =>
          intro vs w6 hx6 hk
          clear hk
          replace c0 := Ext.cell_some hx6 c0
          replace c1 := Ext.cell_some hx6 c1
          replace hwc := Ext.cell_some hx6 hwc
          replace hown := Own.ext hown hx6
          replace hxr := Ext.trans hxr hx6
          replace hgr := hgr.ext hx6
          go_simp
          clear hx6 c0 c1 hwc
          go_wp2
          go_roundw
          case rel => exact ⟨k + 1, by omega, by go_num, by rw [HF2.out]; exact hown, hgr, hxr⟩
          case measure => simp [intOf]; omega
      · have HF2 := Lib.hid (show ((wordsL K m).take (k + 1)).filter (hasL F (statesL K F)) = ((wordsL K m).take k).filter (hasL F (statesL K F)) ++ [u] by rw [HT.out.2.1, List.filter_append, List.filter_cons_of_pos (by exact HT.out.2.2.2.symm)]; rfl)
        have hl := HT.out.2.2.1
        have hl1 : (scells (((wordsL K m).take k).filter (hasL F (statesL K F)))).length + 1 ≤ maxLen := by rw [scells_length]; unfold maxLen; omega
        have hl2 : ((scells (((wordsL K m).take k).filter (hasL F (statesL K F)))).length + 1) * 16 ≤ 140737488355328 := by rw [scells_length]; omega
        clear hl
        go_wp2
        refine wp_region_inv (by kernel_rfl) (.known ?hx6_36_v0 :: .known ?hx6_36_v1 :: .known ?hx6_36_v2 :: .known ?hx6_36_v3 :: .known ?hx6_36_v4 :: .known ?hx6_36_v5 :: .known (.bool true) :: []) rfl (by kernel_rfl) ?hx6_36_s ?hx6_36_p
        case hx6_36_s =>
          intro vs
          refine ⟨fun w' hxw hj => ?_, fun w' hxw hj => ?_, fun w' hxw hj => ?_, fun w' hxw hj => ?_, fun w' hxw hj => ?_, fun w' hxw hj => ?_, fun w' hxw hj => ?_, trivial⟩
          · have c0 := Ext.cell_some hxw c0
            have c1 := Ext.cell_some hxw c1
            have hwc := Ext.cell_some hxw hwc
            clear hj
            go_simp
            try go_bits
            first | rfl | (rw [if_pos (by omega), if_pos (by omega)]; go_simp; rfl) | (rw [if_pos (by omega)]; go_simp; rfl) | skip
          · have c0 := Ext.cell_some hxw c0
            have c1 := Ext.cell_some hxw c1
            have hwc := Ext.cell_some hxw hwc
            clear hj
            go_simp
            try go_bits
            first | rfl | (rw [if_pos (by omega), if_pos (by omega)]; go_simp; rfl) | (rw [if_pos (by omega)]; go_simp; rfl) | skip
          · have c0 := Ext.cell_some hxw c0
            have c1 := Ext.cell_some hxw c1
            have hwc := Ext.cell_some hxw hwc
            clear hj
            go_simp
            try go_bits
            first | rfl | (rw [if_pos (by omega), if_pos (by omega)]; go_simp; rfl) | (rw [if_pos (by omega)]; go_simp; rfl) | skip
          · have c0 := Ext.cell_some hxw c0
            have c1 := Ext.cell_some hxw c1
            have hwc := Ext.cell_some hxw hwc
            clear hj
            go_simp
            try go_bits
            first | rfl | (rw [if_pos (by omega), if_pos (by omega)]; go_simp; rfl) | (rw [if_pos (by omega)]; go_simp; rfl) | skip
          · have c0 := Ext.cell_some hxw c0
            have c1 := Ext.cell_some hxw c1
            have hwc := Ext.cell_some hxw hwc
            clear hj
            go_simp
            try go_bits
            first | rfl | (rw [if_pos (by omega), if_pos (by omega)]; go_simp; rfl) | (rw [if_pos (by omega)]; go_simp; rfl) | skip
          · have c0 := Ext.cell_some hxw c0
            have c1 := Ext.cell_some hxw c1
            have hwc := Ext.cell_some hxw hwc
            clear hj
            go_simp
            try go_bits
            first | rfl | (rw [if_pos (by omega), if_pos (by omega)]; go_simp; rfl) | (rw [if_pos (by omega)]; go_simp; rfl) | skip
          · have c0 := Ext.cell_some hxw c0
            have c1 := Ext.cell_some hxw c1
            have hwc := Ext.cell_some hxw hwc
            clear hj
            go_simp
            try go_bits
            exact HT.out.1 _ ((HS.out.1.ext hxr).ext hxw) (Reads.ext HZr.out hxw)
        case' hx6_36_p =>
          intro vs w6 hx6 hk
          clear hk
          replace c0 := Ext.cell_some hx6 c0
          replace c1 := Ext.cell_some hx6 c1
          replace hwc := Ext.cell_some hx6 hwc
          replace hown := Own.ext hown hx6
          replace hxr := Ext.trans hxr hx6
          replace hgr := hgr.ext hx6
          go_simp
          clear hx6 c0 c1
          have hgrA := hgr.ext (Ext.alloc w6 (.cells #[.string (mkS u)] 9))
          go_wp2_with (at_builtin; refine wpList_append_one rfl (.tmp 38) (.tmp 43) 24 rfl 9 _ _ Tryz.underlying24 infoStr rfl w.heap.size _ _ rfl (hown.ext (Ext.alloc _ _)) w6.heap.size _ rfl (by simp; rfl) rfl hl1 hl2 w rfl (hxr.trans (Ext.alloc _ _)) ?_; intro v' w7 hown7 hx7 hmv)
          have hgr7 := hgrA.step hmv
          go_roundw
          case rel => exact ⟨k + 1, by omega, by go_num, by rw [HF2.out]; simpa [scells] using hown7, hgr7, hx7⟩
          case measure => simp [intOf]; omega
    · have : k = N := by omega
      subst this
      have htk : (wordsL K m).take k = wordsL K m := List.take_of_length_le (by have := HWL.out; rw [scells_length] at this; omega)
      rw [htk] at hown
      clear htk
      go_wp2
      go_ret
      exact ⟨_, rfl, by rw [HN.out]; exact hown, hxr⟩

set_option maxHeartbeats 1000000 in
theorem spec_StatesOf_any (L : Int) (v : Value) (F : List (List UInt8)) (w : World) (h : ReadsW w v F) (hF : ∀ f ∈ F, f.length ≤ maxLen) :
    Calls Tryz.prog 23 #[.agg #[.int .i64 L, v]] w fun e w' => ∃ z, e = .returned z ∧ Own w' w.heap.size 9 z (scells (langOf L F 2)) ∧ Ext w w' := by
  obtain ⟨pa, ca, rfl⟩ := h.slice
  have hx := Ext.alloc w (.cells #[.int .i64 L, .slice pa F.length ca] 26)
  have HS := Lib.hid (And.intro (h.ext hx) hF)
  clear h hF
  go_enter Tryz.func23, Tryz.ntmps23
  go_wp2_with fail
  with_reducible refine (spec_LanguageOf_any L 2 _ F _ HS.out.1 HS.out.2).mono ?_
  rintro e w2 ⟨z, rfl, hz, hx2⟩
  go_wp2
  go_ret
  exact ⟨_, rfl, hz.mono hx.size, hx.trans hx2⟩
theorem languageL_length (K n : Nat) (F : List (List UInt8)) : (languageL K F n).length ≤ K ^ n := by
  unfold languageL
  refine Nat.le_trans (List.length_filter_le _ _) ?_
  simp [wordsL]
end Go.Proofs.YtfiembmfkokllaaGreat

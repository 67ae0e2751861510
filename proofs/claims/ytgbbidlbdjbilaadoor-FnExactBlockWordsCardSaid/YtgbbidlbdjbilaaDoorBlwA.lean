/- Contracts: the words of a shift as pairs of indices, by the program and by the reference. -/
import Derived.Test.YtgbbidlbdjbilaaDoorIdxW
import Derived.Test.YtgbbidlbdjbilaaDoorFmtA
import Derived.Test.YtgbbidlbdjbilaaDoorHoist
import Derived.Test.YtgbbidlbdjbilaaDoorL1In
namespace Go.Proofs.YtgbbidlbdjbilaaDoor
open Go.RowKit Go.Cm
/-- one word: the indices of its first and of its last part -/
def bwL (A : List (List UInt8)) (n : Nat) (u : List UInt8) : List UInt8 := Lib.itoa (idxW A (u.take n)) ++ Lib.itoa (idxW A (u.drop 1))
def blockL (L : Int) (F : List (List UInt8)) (n : Int) : List (List UInt8) :=
  if shiftOk L F && (decide (1 ≤ n) && decide (n ≤ 3)) then
    if (langOf L F n).length ≤ 10 then (langOf L F (n + 1)).map (bwL (langOf L F n) n.toNat) else []
  else []
theorem blockL_no {L n : Int} {F : List (List UInt8)} (h : shiftOk L F = false ∨ n < 1 ∨ 3 < n) : blockL L F n = [] := by
  unfold blockL
  rw [if_neg]
  rcases h with h | h | h
  · rw [h]; simp
  · simp; omega
  · simp; omega
theorem blockL_much {L n : Int} {F : List (List UInt8)} (h : ¬ (langOf L F n).length ≤ 10) : blockL L F n = [] := by
  unfold blockL
  rw [if_neg h]
  split <;> rfl
theorem blockL_yes {K n : Nat} {F : List (List UInt8)} (hf : ShFit K F) (h1 : 1 ≤ n) (h3 : n ≤ 3) (h : (languageL K F n).length ≤ 10) : blockL K F n = (languageL K F (n + 1)).map (bwL (languageL K F n) n) := by
  unfold blockL
  have e1 := langOf_yes (n := n) hf (by omega)
  have e2 := langOf_yes (n := n + 1) hf (by omega)
  rw [if_pos (by rw [hf.ok]; simp; omega), e1, if_pos h, show (n : Int) + 1 = ((n + 1 : Nat) : Int) by omega, e2]
  simp
theorem languageL_word {K n : Nat} {F : List (List UInt8)} {u : List UInt8} (h : u ∈ languageL K F n) : u.length = n := by
  unfold languageL at h
  have h := (List.mem_filter.1 h).1
  unfold wordsL at h
  obtain ⟨i, hi, rfl⟩ := List.mem_map.1 h
  exact wordL_length K n i

theorem langBound {K : Nat} (hK : K ≤ 3) (F : List (List UInt8)) {n : Nat} (hn : n ≤ 4) : (languageL K F n).length ≤ 81 := by
  refine Nat.le_trans (languageL_length K n F) ?_
  have h2 : K ^ n ≤ 3 ^ n := Nat.pow_le_pow_left hK n
  have h3 : 3 ^ n ≤ 3 ^ 4 := Nat.pow_le_pow_right (by omega) hn
  omega

set_option maxRecDepth 100000 in
set_option maxHeartbeats 2000000 in
theorem impl_BlockWords_any (L n : Int) (v : Value) (F : List (List UInt8)) (w : World) (h : ReadsW w v F) (hm : MaxC w) (ht : TabC w) (hF : ∀ f ∈ F, f.length ≤ maxLen) :
    Calls Tryd.prog 7 #[.agg #[.int .i64 L, v], .int .i64 n] w fun e w' => ∃ z, e = .returned z ∧ Own w' w.heap.size 9 z (scells (blockL L F n)) ∧ Ext w w' := by
  obtain ⟨pa, ca, rfl⟩ := h.slice
  have hx := Ext.alloc w (.cells #[.int .i64 L, .slice pa F.length ca] 27)
  have bo : Blk (w.alloc (.cells #[.int .i64 L, .slice pa F.length ca] 27)) w.heap.size #[.int .i64 L, .slice pa F.length ca] := by (repeat (first | (refine Blk.mk' ?_; (simp; done)) | apply Blk.old))
  have c0 := bo.cell 0 (.int .i64 L) rfl
  have c1 := bo.cell 1 (.slice pa F.length ca) rfl
  have HS := Lib.hid (And.intro h (And.intro hm ht))
  clear h hm ht
  obtain ⟨ok, hok⟩ : ∃ ok, ok = shiftOk L F := ⟨_, rfl⟩
  have hcall := fun w h => impl_IsShift_any L (.slice pa F.length ca) F w h hF
  rw [← hok] at hcall
  have HC := Lib.hid (And.intro hcall hok)
  clear hcall hok hF
  cases ok
  · have HN := Lib.hid (blockL_no (n := n) (.inl HC.out.2.symm))
    go_enter Tryd.func7, Tryd.ntmps7
    go_wp2_with fail
    with_reducible refine (HC.out.1 _ (HS.out.1.ext hx)).mono ?_
    rintro e w1 ⟨rfl, hy⟩
    replace hx := hx.trans hy
    replace bo := bo.ext hy
    replace c0 := hy.cell_some c0
    replace c1 := hy.cell_some c1
    clear hy
    clear bo c0 c1
    go_wp2
    go_ret
    exact ⟨.slice none 0 0, rfl, by rw [HN.out]; exact Own.nil _ _ _, hx⟩
  by_cases h1 : n < 1
  · have HN := Lib.hid (blockL_no (L := L) (F := F) (.inr (.inl h1)))
    go_enter Tryd.func7, Tryd.ntmps7
    go_wp2_with fail
    with_reducible refine (HC.out.1 _ (HS.out.1.ext hx)).mono ?_
    rintro e w1 ⟨rfl, hy⟩
    replace hx := hx.trans hy
    replace bo := bo.ext hy
    replace c0 := hy.cell_some c0
    replace c1 := hy.cell_some c1
    clear hy
    clear bo c0 c1
    go_wp2
    go_ret
    exact ⟨.slice none 0 0, rfl, by rw [HN.out]; exact Own.nil _ _ _, hx⟩
  by_cases h3 : 3 < n
  · have HN := Lib.hid (blockL_no (L := L) (F := F) (.inr (.inr h3)))
    go_enter Tryd.func7, Tryd.ntmps7
    go_wp2_with fail
    with_reducible refine (HC.out.1 _ (HS.out.1.ext hx)).mono ?_
    rintro e w1 ⟨rfl, hy⟩
    replace hx := hx.trans hy
    replace bo := bo.ext hy
    replace c0 := hy.cell_some c0
    replace c1 := hy.cell_some c1
    clear hy
    clear bo c0 c1
    go_wp2
    go_ret
    exact ⟨.slice none 0 0, rfl, by rw [HN.out]; exact Own.nil _ _ _, hx⟩
  obtain ⟨m, rfl⟩ : ∃ m : Nat, n = (m : Int) := ⟨n.toNat, by omega⟩
  have hm1 : 1 ≤ m := by omega
  have hm3 : m ≤ 3 := by omega
  obtain ⟨K, rfl, hf⟩ := ShFit.of HC.out.2.symm
  have hK0 : 0 < K := hf.k1
  have hK3 := hf.k3
  have hl1 := fun w h hm => impl_language_any K m (.slice pa F.length ca) F w hK0 hK3 (by omega) h hm
  have hl2 := fun w h hm => impl_language_any K (m + 1) (.slice pa F.length ca) F w hK0 hK3 (by omega) h hm
  simp only [Int.natCast_add, Int.natCast_one] at hl2
  have hyes := fun h => blockL_yes (n := m) hf hm1 hm3 h
  have hmuch := fun h => blockL_much (L := K) (F := F) (n := m) h
  rw [langOf_yes (n := m) hf (by omega)] at hmuch
  have hA81 := langBound hK3 F (n := m) (by omega)
  have hB81 := langBound hK3 F (n := m + 1) (by omega)
  have hBw : ∀ u ∈ languageL K F (m + 1), u.length = m + 1 := fun u hu => languageL_word hu
  obtain ⟨A, hA⟩ : ∃ A, A = languageL K F m := ⟨_, rfl⟩
  obtain ⟨B, hB⟩ : ∃ B, B = languageL K F (m + 1) := ⟨_, rfl⟩
  rw [← hA] at hl1 hyes hmuch hA81
  rw [← hB] at hl2 hyes hB81 hBw
  have HL := Lib.hid (And.intro hl1 (And.intro hl2 (And.intro hyes (And.intro hmuch hBw))))
  clear hl1 hl2 hyes hmuch hBw hA hB hf
  go_enter Tryd.func7, Tryd.ntmps7
  go_wp2_with fail
  with_reducible refine (HC.out.1 _ (HS.out.1.ext hx)).mono ?_
  rintro e w1 ⟨rfl, hy⟩
  replace hx := hx.trans hy
  replace bo := bo.ext hy
  replace c0 := hy.cell_some c0
  replace c1 := hy.cell_some c1
  clear hy
  go_wp2_with fail
  with_reducible refine (HL.out.1 _ (HS.out.1.ext hx) (HS.out.2.1.ext hx)).mono ?_
  rintro e w2 ⟨z, rfl, hz, hy⟩
  replace hx := hx.trans hy
  replace bo := bo.ext hy
  replace c0 := hy.cell_some c0
  replace c1 := hy.cell_some c1
  clear hy
  obtain ⟨pz, cz, rfl⟩ := (Own.readsW hz).slice
  have HZ := Lib.hid (Own.readsW hz)
  obtain ⟨N, hN⟩ : ∃ N, N = A.length := ⟨_, rfl⟩
  rw [← hN] at hA81
  have HN1 := Lib.hid hN
  rw [← hN] at HZ ⊢
  clear hz hN
  by_cases h10 : ¬ N ≤ 10
  · have HN := Lib.hid (HL.out.2.2.2.1 (by rw [← HN1.out]; exact h10))
    clear bo c0 c1
    go_wp2
    go_ret
    exact ⟨.slice none 0 0, rfl, by rw [HN.out]; exact Own.nil _ _ _, hx⟩
  have h10 : N ≤ 10 := by omega
  have HN := Lib.hid (HL.out.2.2.1 (by rw [← HN1.out]; exact h10))
  have hx0 := Ext.alloc w2 (.cells #[] 9)
  replace c0 := hx0.cell_some c0
  replace c1 := hx0.cell_some c1
  go_wp2_with fail
  with_reducible refine (HL.out.2.1 _ ((HS.out.1.ext hx).ext hx0) ((HS.out.2.1.ext hx).ext hx0)).mono ?_
  rintro e w3 ⟨y, rfl, hyo, hy⟩
  have hown0 : Own w3 w2.heap.size 9 (.slice (some ⟨w2.heap.size, 0, none⟩) 0 0) (scells []) := (Own.lit w2 9 [] (by simp)).ext hy
  obtain ⟨M, hM⟩ : ∃ M, M = B.length := ⟨_, rfl⟩
  rw [← hM] at hB81
  have hysh : ∃ py cy, y = .slice py M cy := by
    obtain ⟨py, cy, hv⟩ := (Own.readsW hyo).slice
    exact ⟨py, cy, by rw [hM]; exact hv⟩
  obtain ⟨py, cy, rfl⟩ := hysh
  have hxw3 : Ext w2 w3 := hx0.trans hy
  have HO := Lib.hid (And.intro hown0 (And.intro hyo (And.intro hM (And.intro hxw3 hx))))
  clear hown0 hyo hM hy hx0 c0 c1 bo hxw3
  go_wp2
  go_loopw [6, 32] (fun v i wr => ∃ k : Nat, k ≤ M ∧ i = .int .i64 k ∧ Own wr w2.heap.size 9 v (scells ((B.take k).map (bwL A m))) ∧ Grew w3 (.slice (some ⟨w2.heap.size, 0, none⟩) 0 0) wr v ∧ Ext w2 wr) (fun _ i _ => M - (intOf i).toNat)
  case atStart => exact ⟨0, by omega, rfl, HO.out.1, Grew.refl _ _, HO.out.2.2.2.1⟩
  case round =>
    obtain ⟨k, hk, rfl, hown, hgr, hxr⟩ := hrel
    by_cases hlt : k < M
    · have hlM : k < B.length := by rw [← HO.out.2.2.1]; exact hlt
      have hrow := hgr.own HO.out.2.1 (by
        intro j hj e
        have h1 := (World.ownsRow.lt HO.out.2.1 j hj).1
        simp [Value.ownBlock] at e
        have h2 : (w2.alloc (.cells #[] 9)).heap.size = w2.heap.size + 1 := by simp
        omega)
      obtain ⟨bb, oo, rfl, hcell⟩ := (Own.readsW hrow).at k hlM
      have hug : B.getD k [] = B[k] := by rw [List.getD_eq_getElem?_getD, List.getElem?_eq_getElem hlM, Option.getD_some]
      obtain ⟨u, hu⟩ : ∃ u, u = B.getD k [] := ⟨_, rfl⟩
      rw [← hu] at hcell hug
      have hul : u.length = m + 1 := HL.out.2.2.2.2 u (by rw [hug]; exact List.getElem_mem hlM)
      have htk : (B.take (k + 1)).map (bwL A m) = (B.take k).map (bwL A m) ++ [bwL A m u] := by
        rw [List.take_succ_eq_append_getElem hlM, List.map_append, hug]
        rfl
      have hsu : (mkS u).size = m + 1 := by rw [mkS_size, hul]
      have hsl1 := mkS_tail u 1
      have hsl2 := mkS_head u m
      rw [hsu] at hsl1
      obtain ⟨d, hd⟩ : ∃ d, d = u.drop 1 := ⟨_, rfl⟩
      obtain ⟨a, ha⟩ : ∃ a, a = u.take m := ⟨_, rfl⟩
      rw [← hd] at hsl1
      rw [← ha] at hsl2
      have hi1 := fun w h => slicesIndexW_any (.slice pz N cz) A a w h (by rw [← HN1.out]; omega)
      have hi2 := fun w h => slicesIndexW_any (.slice pz N cz) A d w h (by rw [← HN1.out]; omega)
      have hAl : A.length ≤ 10 := by rw [← HN1.out]; exact h10
      have hb1 := idxW_bd A a
      have hb2 := idxW_bd A d
      obtain ⟨i1, hi1d⟩ : ∃ i, i = idxW A a := ⟨_, rfl⟩
      obtain ⟨i2, hi2d⟩ : ∃ i, i = idxW A d := ⟨_, rfl⟩
      rw [← hi1d] at hi1 hb1
      rw [← hi2d] at hi2 hb2
      have hf1 := fun w h => impl_FormatInt_any i1 w (by omega) (by omega) h
      have hf2 := fun w h => impl_FormatInt_any i2 w (by omega) (by omega) h
      have hl1 := itoa_len (z := i1) (by omega) (by omega)
      have hl2 := itoa_len (z := i2) (by omega) (by omega)
      have hbw : bwL A m u = Lib.itoa i1 ++ Lib.itoa i2 := by rw [hi1d, hi2d, ha, hd]; rfl
      have hcat : mkS (Lib.itoa i1) ++ mkS (Lib.itoa i2) = mkS (bwL A m u) := by rw [mkS_append, hbw]
      have hz1 : (mkS (Lib.itoa i1)).size ≤ 21 := by rw [mkS_size]; exact hl1
      have hz2 : (mkS (Lib.itoa i2)).size ≤ 21 := by rw [mkS_size]; exact hl2
      obtain ⟨s1, hs1⟩ : ∃ s, s = mkS (Lib.itoa i1) := ⟨_, rfl⟩
      obtain ⟨s2, hs2⟩ : ∃ s, s = mkS (Lib.itoa i2) := ⟨_, rfl⟩
      obtain ⟨x, hxd⟩ : ∃ x, x = bwL A m u := ⟨_, rfl⟩
      rw [← hs1] at hf1 hcat hz1
      rw [← hs2] at hf2 hcat hz2
      have hs12 : ¬ 9223372036854775807 < s1.size + s2.size := by omega
      clear hAl hz1 hz2
      rw [← hxd] at hcat htk
      have hlr1 : (scells ((B.take k).map (bwL A m))).length + 1 ≤ maxLen := by rw [scells_length, List.length_map, List.length_take]; unfold maxLen; omega
      have hlr2 : ((scells ((B.take k).map (bwL A m))).length + 1) * 16 ≤ 140737488355328 := by rw [scells_length, List.length_map, List.length_take]; omega
      have HI := Lib.hid (And.intro hi1 (And.intro hi2 (And.intro hf1 (And.intro hf2 (And.intro htk (And.intro hlr1 hlr2))))))
      have HR := Lib.hid (And.intro (HZ.out.ext hxr) (And.intro (HS.out.2.2.ext (HO.out.2.2.2.2.trans hxr)) (And.intro hown (And.intro hgr hxr))))
      have h1u : (1 : Int) ≤ (m : Int) + 1 := by omega
      clear hlM hrow hug hu hul hd ha hi1 hi2 hb1 hb2 hi1d hi2d hf1 hf2 hl1 hl2 hbw hs1 hs2 hxd htk hlr1 hlr2 hown hgr
      go_wp2
      refine wp_region_hoist (by kernel_rfl) 0 36 6 14 (.known ?hx4_3_v0 :: .known ?hx4_3_v1 :: .known ?hx4_3_v2 :: .known ?hx4_3_v3 :: .known ?hx4_3_v4 :: .known (.int .i64 i1) :: .known (.string s1) :: .known ?hx4_3_v7 :: .known ?hx4_3_v8 :: .known ?hx4_3_v9 :: .known (.int .i64 i2) :: .known (.string s2) :: .known ?hx4_3_v12 :: .box ?hx4_3_v13 :: []) rfl (by decide) (by decide) (by kernel_rfl) (by kernel_rfl) (by kernel_rfl) ?hx4_3_f ?hx4_3_s ?hx4_3_p
      case hx4_3_s =>
        intro vs
        refine ⟨fun w' hxw hj => ?_, fun w' hxw hj => ?_, fun w' hxw hj => ?_, fun w' hxw hj => ?_, fun w' hxw hj => ?_, fun w' hxw hj => ?_, fun w' hxw hj => ?_, fun w' hxw hj => ?_, fun w' hxw hj => ?_, fun w' hxw hj => ?_, fun w' hxw hj => ?_, fun w' hxw hj => ?_, fun w' hxw hj => ?_, fun w' hxw hj => ?_, trivial⟩
        · have hcell := Ext.cell_some hxw hcell
          clear hj
          go_simp
          try go_bits
          first | rfl | (rw [if_pos (by omega), if_pos (by omega)]; go_simp; rfl) | (rw [if_pos (by omega)]; go_simp; rfl) | skip
        · have hcell := Ext.cell_some hxw hcell
          clear hj
          go_simp
          try go_bits
          first | rfl | (rw [if_pos (by omega), if_pos (by omega)]; go_simp; rfl) | (rw [if_pos (by omega)]; go_simp; rfl) | skip
        · have hcell := Ext.cell_some hxw hcell
          clear hj
          go_simp
          try go_bits
          first | rfl | (rw [if_pos (by omega), if_pos (by omega)]; go_simp; rfl) | (rw [if_pos (by omega)]; go_simp; rfl) | skip
        · have hcell := Ext.cell_some hxw hcell
          clear hj
          go_simp
          try go_bits
          first | rfl | (rw [if_pos (by omega), if_pos (by omega)]; go_simp; rfl) | (rw [if_pos (by omega)]; go_simp; rfl) | skip
        · have hcell := Ext.cell_some hxw hcell
          clear hj
          go_simp
          try go_bits
          first | rfl | (rw [if_pos (by omega), if_pos (by omega)]; go_simp; rfl) | (rw [if_pos (by omega)]; go_simp; rfl) | skip
        · have hcell := Ext.cell_some hxw hcell
          clear hj
          go_simp
          try go_bits
          exact HI.out.1 _ (HR.out.1.ext hxw)
        · have hcell := Ext.cell_some hxw hcell
          clear hj
          go_simp
          try go_bits
          exact HI.out.2.2.1 _ (HR.out.2.1.ext hxw)
        · have hcell := Ext.cell_some hxw hcell
          clear hj
          go_simp
          try go_bits
          first | rfl | (rw [if_pos (by omega), if_pos (by omega)]; go_simp; rfl) | (rw [if_pos (by omega)]; go_simp; rfl) | skip
        · have hcell := Ext.cell_some hxw hcell
          clear hj
          go_simp
          try go_bits
          first | rfl | (rw [if_pos (by omega), if_pos (by omega)]; go_simp; rfl) | (rw [if_pos (by omega)]; go_simp; rfl) | skip
        · have hcell := Ext.cell_some hxw hcell
          clear hj
          go_simp
          try go_bits
          first | rfl | (rw [if_pos (by omega), if_pos (by omega)]; go_simp; rfl) | (rw [if_pos (by omega)]; go_simp; rfl) | skip
        · have hcell := Ext.cell_some hxw hcell
          clear hj
          go_simp
          try go_bits
          exact HI.out.2.1 _ (HR.out.1.ext hxw)
        · have hcell := Ext.cell_some hxw hcell
          clear hj
          go_simp
          try go_bits
          exact HI.out.2.2.2.1 _ (HR.out.2.1.ext hxw)
        · have hcell := Ext.cell_some hxw hcell
          clear hj
          go_simp
          try go_bits
          first | rfl | (rw [if_pos (by omega), if_pos (by omega)]; go_simp; rfl) | (rw [if_pos (by omega)]; go_simp; rfl) | skip
        · have hcell := Ext.cell_some hxw hcell
          clear hj
          go_simp
          try go_bits
          exact boxOf_new _ _ _
      case hx4_3_f => (intro s v w hs hv; cases hs; exact hv)
      case' hx4_3_p =>
        intro vs w4 hx4 hk
        have k13 : BoxOf _ (vs 13) w4 := hk 13 _ rfl
        clear hk
        replace hcell := Ext.cell_some hx4 hcell
        go_simp
        obtain ⟨bx, hbx, hcx⟩ := k13
        clear hcell
        have HB := Lib.hid (And.intro (HR.out.2.2.1.ext hx4) (HR.out.2.2.2.2.trans hx4))
        rw [hbx]
        go_wp2_with (at_builtin; refine wpList_append_one rfl (.tmp 36) (.tmp 49) 22 rfl 9 _ _ Tryd.underlying22 infoStr rfl w2.heap.size _ _ rfl HB.out.1 bx _ rfl hcx rfl HI.out.2.2.2.2.2.1 HI.out.2.2.2.2.2.2 w2 rfl HB.out.2 ?_; intro v' w5 hown5 hx5 hmv)
        refine (onlyN_normal _ _ _).2 ?_
        go_wp2
        go_roundw
        case rel => exact ⟨k + 1, by omega, by go_num, by rw [HI.out.2.2.2.2.1]; simpa [scells] using hown5, (HR.out.2.2.2.1.ext hx4).step hmv, hx5⟩
        case measure => simp [intOf]; omega
    · have hkM : k = M := by omega
      subst hkM
      have htk : B.take k = B := List.take_of_length_le (by rw [← HO.out.2.2.1]; exact Nat.le_refl _)
      rw [htk] at hown
      have HH := Lib.hid (And.intro hown hxr)
      clear hown hxr hgr htk
      go_wp2
      go_ret
      exact ⟨_, rfl, by rw [HN.out]; exact HH.out.1.mono HO.out.2.2.2.2.size, HO.out.2.2.2.2.trans HH.out.2⟩
end Go.Proofs.YtgbbidlbdjbilaaDoor

/- Contract: the least forbidden words of a shift, by the reference. -/
import Derived.Test.YtfiembmfkokllaaGreatPkF
import Derived.Test.YtfiembmfkokllaaGreatPkC
namespace Go.Proofs.YtfiembmfkokllaaGreat
open Go.RowKit Go.Cm

/-- the least forbidden words, if there are words at all and they are at most eight -/
def forbO (L : Int) (F : List (List UInt8)) : Option (List (List UInt8)) :=
  if shiftOk L F && !(decide ((statesL L.toNat F).length = 0)) then
    if (putsR (candTo L.toNat F (statesL L.toNat F) 4 0)).length ≤ 8 then some (putsR (candTo L.toNat F (statesL L.toNat F) 4 0)) else none
  else none
theorem forbO_bad {L : Int} {F : List (List UInt8)} (h : shiftOk L F = false) : forbO L F = none := by unfold forbO; rw [h]; rfl
theorem forbO_empty {K : Nat} {F : List (List UInt8)} (h : (statesL K F).length = 0) : forbO K F = none := by
  unfold forbO
  rw [show ((K : Int).toNat) = K by omega, decide_eq_true h]
  simp
theorem forbO_yes {K : Nat} {F : List (List UInt8)} (h : shiftOk K F = true) (hs : ¬ (statesL K F).length = 0) (h8 : (putsR (candTo K F (statesL K F) 4 0)).length ≤ 8) : forbO K F = some (putsR (candTo K F (statesL K F) 4 0)) := by
  unfold forbO
  rw [show ((K : Int).toNat) = K by omega, decide_eq_false hs, h, if_pos (show (true && !false) = true from rfl), if_pos h8]
theorem forbO_much {K : Nat} {F : List (List UInt8)} (h8 : ¬ (putsR (candTo K F (statesL K F) 4 0)).length ≤ 8) : forbO K F = none := by
  unfold forbO
  rw [show ((K : Int).toNat) = K by omega, if_neg h8]
  split <;> rfl
/-- the letters that come with it -/
def forbL (L : Int) (F : List (List UInt8)) : Int := if (forbO L F).isSome then L else 0
theorem cand_card {K : Nat} (hK : K ≤ 3) (F st : List (List UInt8)) {k j : Nat} (hk : k ≤ 4) (hk3 : k ≤ 3 ∨ j = 0) : (candTo K F st k j).length ≤ 200 := by
  have hw : ∀ q, q ≤ 3 → ((wordsL K q).filter (minB F st)).length ≤ 27 := by
    intro q hq
    refine Nat.le_trans (List.length_filter_le _ _) ?_
    have h1 : (wordsL K q).length = K ^ q := by simp [wordsL]
    rw [h1]
    have h2 : K ^ q ≤ 3 ^ q := Nat.pow_le_pow_left hK q
    have h3 : 3 ^ q ≤ 3 ^ 3 := Nat.pow_le_pow_right (by omega) hq
    omega
  have hs : ∀ k, k ≤ 4 → ((List.range k).flatMap fun q => if q = 0 then [] else (wordsL K q).filter (minB F st)).length ≤ 27 * k := by
    intro k
    induction k with
    | zero => intro _; simp
    | succ k ih =>
      intro hk
      rw [List.range_succ, List.flatMap_append, List.length_append, List.flatMap_cons, List.flatMap_nil, List.append_nil]
      have h1 := ih (by omega)
      have h2 : (if k = 0 then [] else (wordsL K k).filter (minB F st)).length ≤ 27 := by
        by_cases h0 : k = 0
        · rw [if_pos h0]; simp
        · rw [if_neg h0]; exact hw k (by omega)
      omega
  unfold candTo
  rw [List.length_append]
  have h1 := hs k hk
  have h2 : (((wordsL K k).take j).filter (minB F st)).length ≤ 27 := by
    rcases hk3 with h | h
    · exact Nat.le_trans ((List.take_sublist _ _).filter _).length_le (hw k h)
    · rw [h]; simp
  omega

set_option maxRecDepth 100000 in
set_option maxHeartbeats 4000000 in
theorem spec_ForbiddenOf_any (L : Int) (v : Value) (F : List (List UInt8)) (w : World) (h : ReadsW w v F) (hF : ∀ f ∈ F, f.length ≤ maxLen) :
    Calls Tryz.prog 10 #[.agg #[.int .i64 L, v]] w fun e w' => ∃ z, e = .returned (.tuple #[.agg #[.int .i64 (forbL L F), z], .bool (forbO L F).isSome]) ∧ Own w' w.heap.size 9 z (scells ((forbO L F).getD [])) ∧ Ext w w' := by
  obtain ⟨pa, ca, rfl⟩ := h.slice
  have hx := (Ext.alloc w (.cells #[.int .i64 L, .slice pa F.length ca] 26)).trans (Ext.alloc _ (.cells #[.int .i64 0, .slice none 0 0] 26))
  have bo : Blk ((w.alloc (.cells #[.int .i64 L, .slice pa F.length ca] 26)).alloc (.cells #[.int .i64 0, .slice none 0 0] 26)) w.heap.size #[.int .i64 L, .slice pa F.length ca] := by (repeat (first | (refine Blk.mk' ?_; (simp; done)) | apply Blk.old))
  have br : Blk ((w.alloc (.cells #[.int .i64 L, .slice pa F.length ca] 26)).alloc (.cells #[.int .i64 0, .slice none 0 0] 26)) (w.heap.size + 1) #[.int .i64 0, .slice none 0 0] := by (repeat (first | (refine Blk.mk' ?_; (simp; done)) | apply Blk.old))
  have HS := Lib.hid h
  clear h
  obtain ⟨ok, hok⟩ : ∃ ok, ok = shiftOk L F := ⟨_, rfl⟩
  have hcall := fun w h => spec_IsShift_any L (.slice pa F.length ca) F w h hF
  rw [← hok] at hcall
  have HC := Lib.hid (And.intro hcall hok)
  clear hcall hok hF
  have c0 := bo.cell 0 _ rfl
  have c1 := bo.cell 1 _ rfl
  cases ok
  · have HN := Lib.hid (forbO_bad HC.out.2.symm)
    go_enter Tryz.func10, Tryz.ntmps10
    go_wp2_with fail
    with_reducible refine (HC.out.1 _ (HS.out.ext hx)).mono ?_
    rintro e w1 ⟨rfl, hy⟩
    replace hx := hx.trans hy
    replace bo := bo.ext hy
    replace br := br.ext hy
    clear hy c0 c1
    have c0 := bo.cell 0 _ rfl
    have c1 := bo.cell 1 _ rfl
    have r0 := br.cell 0 _ rfl
    have r1 := br.cell 1 _ rfl
    have f0 := br.frozen 0
    have f1 := br.frozen 1
    clear br bo c0 c1
    go_wp2
    refine bodyPost_ret (v := .tuple #[.agg #[.int .i64 0, .slice none 0 0], .bool false]) ?_ rfl ⟨.slice none 0 0, by unfold forbL; rw [HN.out]; rfl, by rw [HN.out]; exact Own.nil _ _ _, (hx.setCell (by simp) _).setCell (by simp) _⟩
    simp [results, Tryz.results10, go_sem, r0, r1]
  obtain ⟨K, rfl, hf⟩ := ShFit.of HC.out.2.symm
  have hK0 : 0 < K := hf.k1
  have hK3 := hf.k3
  have hem := fun w h => spec_IsEmptyShift_any K (.slice pa F.length ca) F w h hf
  have hF2 : ∀ f ∈ F, f.length ≤ 1048576 := fun f hm => by have := (hf.word f hm).2.2; omega
  have hps := fun w h => spec_l3Pairs_any K (.slice pa F.length ca) F w hK0 hK3 h hF2
  have hempty := fun h => forbO_empty (K := K) (F := F) h
  have hyes := fun h h8 => forbO_yes (K := K) (F := F) hf.ok h h8
  have hmuch := fun h8 => forbO_much (K := K) (F := F) h8
  have hhas : ∀ x, hasS F (statesL K F) x = hasL F (statesL K F) x := fun x => hasS_eq (fun u hu => statesL_avoid hu) x
  have htwo : ∀ u ∈ statesL K F, u.length ≤ 1048576 := fun u hu => by rw [states_two u hu]; omega
  obtain ⟨st, hst⟩ : ∃ st, st = statesL K F := ⟨_, rfl⟩
  rw [← hst] at hem hps hempty hyes hmuch hhas htwo
  have hin := fun x w z h hz hl => spec_l3In_any K (.slice pa F.length ca) z F st x w h hz hF2 hl htwo
  simp only [hhas] at hin
  have HE := Lib.hid (And.intro hem (And.intro hps (And.intro hempty (And.intro hyes (And.intro hmuch hin)))))
  clear hem hps hempty hyes hmuch hhas htwo hin hF2 hf hst
  by_cases hs0 : st.length = 0
  · have HN := Lib.hid (HE.out.2.2.1 hs0)
    rw [decide_eq_true hs0] at HE
    go_enter Tryz.func10, Tryz.ntmps10
    go_wp2_with fail
    with_reducible refine (HC.out.1 _ (HS.out.ext hx)).mono ?_
    rintro e w1 ⟨rfl, hy⟩
    replace hx := hx.trans hy
    replace bo := bo.ext hy
    replace br := br.ext hy
    clear hy c0 c1
    have c0 := bo.cell 0 _ rfl
    have c1 := bo.cell 1 _ rfl
    go_wp2_with fail
    with_reducible refine (HE.out.1 _ (HS.out.ext hx)).mono ?_
    rintro e w2 ⟨rfl, hy⟩
    replace hx := hx.trans hy
    replace bo := bo.ext hy
    replace br := br.ext hy
    clear hy c0 c1
    have c0 := bo.cell 0 _ rfl
    have c1 := bo.cell 1 _ rfl
    have r0 := br.cell 0 _ rfl
    have r1 := br.cell 1 _ rfl
    have f0 := br.frozen 0
    have f1 := br.frozen 1
    clear br bo c0 c1
    go_wp2
    refine bodyPost_ret (v := .tuple #[.agg #[.int .i64 0, .slice none 0 0], .bool false]) ?_ rfl ⟨.slice none 0 0, by unfold forbL; rw [HN.out]; rfl, by rw [HN.out]; exact Own.nil _ _ _, (hx.setCell (by simp) _).setCell (by simp) _⟩
    simp [results, Tryz.results10, go_sem, r0, r1]
  rw [decide_eq_false hs0] at HE
  have HY := Lib.hid (HE.out.2.2.2.1 hs0)
  clear hs0
  go_enter Tryz.func10, Tryz.ntmps10
  go_wp2_with fail
  with_reducible refine (HC.out.1 _ (HS.out.ext hx)).mono ?_
  rintro e w1 ⟨rfl, hy⟩
  replace hx := hx.trans hy
  replace bo := bo.ext hy
  replace br := br.ext hy
  clear hy c0 c1
  have c0 := bo.cell 0 _ rfl
  have c1 := bo.cell 1 _ rfl
  go_wp2_with fail
  with_reducible refine (HE.out.1 _ (HS.out.ext hx)).mono ?_
  rintro e w2 ⟨rfl, hy⟩
  replace hx := hx.trans hy
  replace bo := bo.ext hy
  replace br := br.ext hy
  clear hy c0 c1
  have c0 := bo.cell 0 _ rfl
  have c1 := bo.cell 1 _ rfl
  go_wp2_with fail
  with_reducible refine (HE.out.2.1 _ (HS.out.ext hx)).mono ?_
  rintro e w3 ⟨z, rfl, hz, hy⟩
  replace hx := hx.trans hy
  replace bo := bo.ext hy
  replace br := br.ext hy
  clear hy c0 c1
  have c0 := bo.cell 0 _ rfl
  have c1 := bo.cell 1 _ rfl
  obtain ⟨pz, cz, rfl⟩ := (Own.readsW hz).slice
  have HZ := Lib.hid (And.intro (Own.readsW hz) (HS.out.ext hx))
  clear hz
  have hB0 : Own (w3.alloc (.cells #[] 9)) w3.heap.size 9 (.slice (some ⟨w3.heap.size, 0, none⟩) (putsR (candTo K F st 1 0)).length 0) (scells (putsR (candTo K F st 1 0))) := by
    rw [candTo_start]
    exact Own.lit w3 9 [] (by simp)
  have hBx := Ext.alloc w3 (.cells #[] 9)
  have hB1 : (putsR (candTo K F st 1 0)).length = 0 := by rw [candTo_start]; rfl
  have HB := Lib.hid (And.intro hB0 (And.intro hB1 (And.intro br bo)))
  clear hB0 hB1 br bo c0 c1
  go_wp2
  go_loopw [5, 6, 7, 8, 9] (fun v i _ _ _ wr => ∃ (k g c : Nat), 1 ≤ k ∧ k ≤ 4 ∧ i = .int .i64 k ∧ v = .slice (some ⟨g, 0, none⟩) (putsR (candTo K F st k 0)).length c ∧ Own wr w3.heap.size 9 (.slice (some ⟨g, 0, none⟩) (putsR (candTo K F st k 0)).length c) (scells (putsR (candTo K F st k 0))) ∧ Ext w3 wr) (fun _ i _ _ _ _ => 4 - (intOf i).toNat)
  case atStart => exact ⟨1, w3.heap.size, 0, by omega, by omega, rfl, by rw [HB.out.2.1], HB.out.1, hBx⟩
  case round =>
    clear hBx
    obtain ⟨k, g, c, hk1, hk4, rfl, rfl, hown, hxr⟩ := hrel
    obtain ⟨wm, rfl⟩ : ∃ wm : World, wm = wr := ⟨_, rfl⟩
    obtain ⟨hgB, hgm⟩ := World.ownsRow.lt hown g rfl
    by_cases hk : k ≤ 3
    · have c0 := hxr.cell_some (HB.out.2.2.2.cell 0 _ rfl)
      have c1 := hxr.cell_some (HB.out.2.2.2.cell 1 _ rfl)
      have HA := Lib.hid (spec_l2All_any K k wm hK0 hK3 (by omega))
      have HO := Lib.hid hown
      clear hown
      go_wp2_with fail
      with_reducible refine HA.out.mono ?_
      rintro e w6 ⟨u, rfl, hw, hy⟩
      have hpos : 0 < (wordsL K k).length := by
        have h1 : (wordsL K k).length = K ^ k := by simp [wordsL]
        rw [h1]
        exact Nat.pow_pos hK0
      have hsh : ∃ gw cw, u = .slice (some ⟨gw, 0, none⟩) (wordsL K k).length cw ∧ wm.heap.size ≤ gw ∧ (wordsL K k).length ≤ cw ∧ cw ≤ 9223372036854775807 := by
        rcases hw.shape with ⟨_, hn⟩ | ⟨gw, cw, hv, h1, _, h3, h4⟩
        · have := congrArg List.length hn
          rw [scells_length, List.length_nil] at this
          omega
        · rw [scells_length] at hv h3
          exact ⟨gw, cw, hv, h1, h3, by unfold maxLen at h4; omega⟩
      obtain ⟨gw, cw, rfl, hgw, hlw1, hlw2⟩ := hsh
      have hx6 := hxr.trans hy
      replace c0 := hy.cell_some c0
      replace c1 := hy.cell_some c1
      have hown6 := HO.out.ext hy
      obtain ⟨N, hN⟩ : ∃ N, N = (wordsL K k).length := ⟨_, rfl⟩
      rw [← hN] at hw hpos hlw1 ⊢
      have HW := Lib.hid (And.intro hw (And.intro hN (And.intro (HB.out.2.2.2.ext hx6) trivial)))
      clear hw hN hy c0 c1 hxr
      go_wp2
      go_loopw [5, 8, 9] (fun v j _ wn => ∃ (q g' c' : Nat), q ≤ N ∧ j = .int .i64 q ∧ v = .slice (some ⟨g', 0, none⟩) (putsR (candTo K F st k q)).length c' ∧ Own wn w3.heap.size 9 (.slice (some ⟨g', 0, none⟩) (putsR (candTo K F st k q)).length c') (scells (putsR (candTo K F st k q))) ∧ Grew w6 (.slice (some ⟨g, 0, none⟩) 0 0) wn (.slice (some ⟨g', 0, none⟩) 0 0) ∧ Ext w3 wn) (fun _ j _ _ => N - (intOf j).toNat)
      case atStart => exact ⟨0, g, c, by omega, rfl, rfl, hown6, Grew.refl _ _, hx6⟩
      case round =>
        clear hown6 hx6
        obtain ⟨q, g', c', hq, rfl, rfl, hown, hgr, hxr⟩ := hrel
        obtain ⟨wn, rfl⟩ : ∃ wn : World, wn = wr := ⟨_, rfl⟩
        by_cases hlt : q < N
        · have hwc : wn.cell? ⟨gw, q, none⟩ = some (.string (mkS ((wordsL K k).getD q []))) := by
            have h1 := (hgr.own HW.out.1 (by intro j hj; simp [Value.ownBlock] at hj ⊢; omega)).cell q (by rw [scells_length, ← HW.out.2.1]; exact hlt)
            rw [scells_at _ _ (by rw [← HW.out.2.1]; exact hlt)] at h1
            exact h1
          have hlw : q < (wordsL K k).length := by rw [← HW.out.2.1]; exact hlt
          have hug : (wordsL K k).getD q [] = (wordsL K k)[q] := by rw [List.getD_eq_getElem?_getD, List.getElem?_eq_getElem hlw, Option.getD_some]
          obtain ⟨u, hu⟩ : ∃ u, u = (wordsL K k).getD q [] := ⟨_, rfl⟩
          rw [← hu] at hwc hug
          have hul : u.length = k := wordsL_size (by rw [hug]; exact List.getElem_mem hlw)
          have htk : (wordsL K k).take (q + 1) = (wordsL K k).take q ++ [u] := by rw [hug]; exact List.take_succ_eq_append_getElem hlw
          obtain ⟨p, hp⟩ : ∃ p, p + 1 = k := ⟨k - 1, by omega⟩
          have hkp : (k : Int) - 1 = (p : Int) := by omega
          have h1k : (1 : Int) ≤ (k : Int) := by omega
          have hsu : (mkS u).size = k := by rw [mkS_size, hul]
          have hsl1 := mkS_tail u 1
          have hsl2 := mkS_head u p
          rw [hsu] at hsl1
          have hmin : minB F st u = (!(hasL F st u) && (hasL F st (u.drop 1) && hasL F st (u.take p))) := by unfold minB; rw [List.drop_one, hul, show k - 1 = p by omega]
          obtain ⟨d, hd⟩ : ∃ d, d = u.drop 1 := ⟨_, rfl⟩
          obtain ⟨a, ha⟩ : ∃ a, a = u.take p := ⟨_, rfl⟩
          rw [← hd] at hsl1 hmin
          rw [← ha] at hsl2 hmin
          have hi1 := fun w h hz => HE.out.2.2.2.2.2 u w (.slice pz st.length cz) h hz (by omega)
          have hi2 := fun w h hz => HE.out.2.2.2.2.2 d w (.slice pz st.length cz) h hz (by rw [hd, List.length_drop]; omega)
          have hi3 := fun w h hz => HE.out.2.2.2.2.2 a w (.slice pz st.length cz) h hz (by rw [ha, List.length_take]; omega)
          obtain ⟨b1, hb1⟩ : ∃ b, b = hasL F st u := ⟨_, rfl⟩
          obtain ⟨b2, hb2⟩ : ∃ b, b = hasL F st d := ⟨_, rfl⟩
          obtain ⟨b3, hb3⟩ : ∃ b, b = hasL F st a := ⟨_, rfl⟩
          rw [← hb1] at hi1 hmin
          rw [← hb2] at hi2 hmin
          rw [← hb3] at hi3 hmin
          have HI := Lib.hid (And.intro hi1 (And.intro hi2 hi3))
          have HT := Lib.hid (And.intro htk hmin)
          have c0 := hxr.cell_some (HB.out.2.2.2.cell 0 _ rfl)
          have c1 := hxr.cell_some (HB.out.2.2.2.cell 1 _ rfl)
          clear hu hug hlw htk hmin hd ha hb1 hb2 hb3 hi1 hi2 hi3 hul hp
          cases b1
          rotate_left
          · go_wp2
            refine wp_region_inv (by kernel_rfl) (.known ?hx9_17_v0 :: .known ?hx9_17_v1 :: .known ?hx9_17_v2 :: .known (.bool true) :: .known ?hx9_17_v4 :: .known ?hx9_17_v5 :: .known ?hx9_17_v6 :: .known ?hx9_17_v7 :: .known ?hx9_17_v8 :: .known ?hx9_17_v9 :: .known ?hx9_17_v10 :: .known ?hx9_17_v11 :: .known ?hx9_17_v12 :: .known ?hx9_17_v13 :: .known ?hx9_17_v14 :: .known ?hx9_17_v15 :: .known ?hx9_17_v16 :: .known ?hx9_17_v17 :: .known ?hx9_17_v18 :: .known ?hx9_17_v19 :: .known ?hx9_17_v20 :: []) rfl (by kernel_rfl) ?hx9_17_s ?hx9_17_p
            case hx9_17_s =>
              intro vs
              refine ⟨fun w' hxw hj => ?_, fun w' hxw hj => ?_, fun w' hxw hj => ?_, fun w' hxw hj => ?_, fun w' hxw hj => ?_, fun w' hxw hj => ?_, fun w' hxw hj => ?_, fun w' hxw hj => ?_, fun w' hxw hj => ?_, fun w' hxw hj => ?_, fun w' hxw hj => ?_, fun w' hxw hj => ?_, fun w' hxw hj => ?_, fun w' hxw hj => ?_, fun w' hxw hj => ?_, fun w' hxw hj => ?_, fun w' hxw hj => ?_, fun w' hxw hj => ?_, fun w' hxw hj => ?_, fun w' hxw hj => ?_, fun w' hxw hj => ?_, trivial⟩
              · have c0 := Ext.cell_some hxw c0
                have c1 := Ext.cell_some hxw c1
                have hwc := Ext.cell_some hxw hwc
                clear hj
                go_simp
                try go_bits
                first | rfl | (rw [if_pos (by omega), if_pos (by omega)]; go_simp; rfl) | (rw [if_pos (by omega)]; go_simp; rfl) | skip
              · have c0 := Ext.cell_some hxw c0
                have c1 := Ext.cell_some hxw c1
                have hwc := Ext.cell_some hxw hwc
                clear hj
                go_simp
                try go_bits
                first | rfl | (rw [if_pos (by omega), if_pos (by omega)]; go_simp; rfl) | (rw [if_pos (by omega)]; go_simp; rfl) | skip
              · have c0 := Ext.cell_some hxw c0
                have c1 := Ext.cell_some hxw c1
                have hwc := Ext.cell_some hxw hwc
                clear hj
                go_simp
                try go_bits
                first | rfl | (rw [if_pos (by omega), if_pos (by omega)]; go_simp; rfl) | (rw [if_pos (by omega)]; go_simp; rfl) | skip
              · have c0 := Ext.cell_some hxw c0
                have c1 := Ext.cell_some hxw c1
                have hwc := Ext.cell_some hxw hwc
                clear hj
                go_simp
                try go_bits
                exact HI.out.1 _ ((HZ.out.2.ext hxr).ext hxw) ((Reads.ext HZ.out.1 hxr).ext hxw)
              · have c0 := Ext.cell_some hxw c0
                have c1 := Ext.cell_some hxw c1
                have hwc := Ext.cell_some hxw hwc
                clear hj
                go_simp
                try go_bits
                first | rfl | (rw [if_pos (by omega), if_pos (by omega)]; go_simp; rfl) | (rw [if_pos (by omega)]; go_simp; rfl) | skip
              · have c0 := Ext.cell_some hxw c0
                have c1 := Ext.cell_some hxw c1
                have hwc := Ext.cell_some hxw hwc
                clear hj
                go_simp
                try go_bits
                first | rfl | (rw [if_pos (by omega), if_pos (by omega)]; go_simp; rfl) | (rw [if_pos (by omega)]; go_simp; rfl) | skip
              · have c0 := Ext.cell_some hxw c0
                have c1 := Ext.cell_some hxw c1
                have hwc := Ext.cell_some hxw hwc
                clear hj
                go_simp
                try go_bits
                first | rfl | (rw [if_pos (by omega), if_pos (by omega)]; go_simp; rfl) | (rw [if_pos (by omega)]; go_simp; rfl) | skip
              · have c0 := Ext.cell_some hxw c0
                have c1 := Ext.cell_some hxw c1
                have hwc := Ext.cell_some hxw hwc
                clear hj
                go_simp
                try go_bits
                first | rfl | (rw [if_pos (by omega), if_pos (by omega)]; go_simp; rfl) | (rw [if_pos (by omega)]; go_simp; rfl) | skip
              · have c0 := Ext.cell_some hxw c0
                have c1 := Ext.cell_some hxw c1
                have hwc := Ext.cell_some hxw hwc
                clear hj
                go_simp
                try go_bits
                first | rfl | (rw [if_pos (by omega), if_pos (by omega)]; go_simp; rfl) | (rw [if_pos (by omega)]; go_simp; rfl) | skip
              · have c0 := Ext.cell_some hxw c0
                have c1 := Ext.cell_some hxw c1
                have hwc := Ext.cell_some hxw hwc
                clear hj
                go_simp
                try go_bits
                first | rfl | (rw [if_pos (by omega), if_pos (by omega)]; go_simp; rfl) | (rw [if_pos (by omega)]; go_simp; rfl) | skip
              · have c0 := Ext.cell_some hxw c0
                have c1 := Ext.cell_some hxw c1
                have hwc := Ext.cell_some hxw hwc
                clear hj
                go_simp
                try go_bits
                first | rfl | (rw [if_pos (by omega), if_pos (by omega)]; go_simp; rfl) | (rw [if_pos (by omega)]; go_simp; rfl) | skip
              · have c0 := Ext.cell_some hxw c0
                have c1 := Ext.cell_some hxw c1
                have hwc := Ext.cell_some hxw hwc
                clear hj
                go_simp
                try go_bits
                first | rfl | (rw [if_pos (by omega), if_pos (by omega)]; go_simp; rfl) | (rw [if_pos (by omega)]; go_simp; rfl) | skip
              · have c0 := Ext.cell_some hxw c0
                have c1 := Ext.cell_some hxw c1
                have hwc := Ext.cell_some hxw hwc
                clear hj
                go_simp
                try go_bits
                first | rfl | (rw [if_pos (by omega), if_pos (by omega)]; go_simp; rfl) | (rw [if_pos (by omega)]; go_simp; rfl) | skip
              · have c0 := Ext.cell_some hxw c0
                have c1 := Ext.cell_some hxw c1
                have hwc := Ext.cell_some hxw hwc
                clear hj
                go_simp
                try go_bits
                first | rfl | (rw [if_pos (by omega), if_pos (by omega)]; go_simp; rfl) | (rw [if_pos (by omega)]; go_simp; rfl) | skip
              · have c0 := Ext.cell_some hxw c0
                have c1 := Ext.cell_some hxw c1
                have hwc := Ext.cell_some hxw hwc
                clear hj
                go_simp
                try go_bits
                first | rfl | (rw [if_pos (by omega), if_pos (by omega)]; go_simp; rfl) | (rw [if_pos (by omega)]; go_simp; rfl) | skip
              · have c0 := Ext.cell_some hxw c0
                have c1 := Ext.cell_some hxw c1
                have hwc := Ext.cell_some hxw hwc
                clear hj
                go_simp
                try go_bits
                first | rfl | (rw [if_pos (by omega), if_pos (by omega)]; go_simp; rfl) | (rw [if_pos (by omega)]; go_simp; rfl) | skip
              · have c0 := Ext.cell_some hxw c0
                have c1 := Ext.cell_some hxw c1
                have hwc := Ext.cell_some hxw hwc
                clear hj
                go_simp
                try go_bits
                first | rfl | (rw [if_pos (by omega), if_pos (by omega)]; go_simp; rfl) | (rw [if_pos (by omega)]; go_simp; rfl) | skip
              · have c0 := Ext.cell_some hxw c0
                have c1 := Ext.cell_some hxw c1
                have hwc := Ext.cell_some hxw hwc
                clear hj
                go_simp
                try go_bits
                first | rfl | (rw [if_pos (by omega), if_pos (by omega)]; go_simp; rfl) | (rw [if_pos (by omega)]; go_simp; rfl) | skip
              · have c0 := Ext.cell_some hxw c0
                have c1 := Ext.cell_some hxw c1
                have hwc := Ext.cell_some hxw hwc
                clear hj
                go_simp
                try go_bits
                first | rfl | (rw [if_pos (by omega), if_pos (by omega)]; go_simp; rfl) | (rw [if_pos (by omega)]; go_simp; rfl) | skip
              · have c0 := Ext.cell_some hxw c0
                have c1 := Ext.cell_some hxw c1
                have hwc := Ext.cell_some hxw hwc
                clear hj
                go_simp
                try go_bits
                first | rfl | (rw [if_pos (by omega), if_pos (by omega)]; go_simp; rfl) | (rw [if_pos (by omega)]; go_simp; rfl) | skip
              · have c0 := Ext.cell_some hxw c0
                have c1 := Ext.cell_some hxw c1
                have hwc := Ext.cell_some hxw hwc
                clear hj
                go_simp
                try go_bits
                first | rfl | (rw [if_pos (by omega), if_pos (by omega)]; go_simp; rfl) | (rw [if_pos (by omega)]; go_simp; rfl) | skip
            case' hx9_17_p =>
              intro vs w9 hx9 hk
              clear hk
              replace c0 := Ext.cell_some hx9 c0
              replace c1 := Ext.cell_some hx9 c1
              replace hwc := Ext.cell_some hx9 hwc
              replace hown := Own.ext hown hx9
              replace hxr := Ext.trans hxr hx9
              replace hgr := hgr.ext hx9
              go_simp
              have HQ := Lib.hid (candTo_skip (F := F) (st := st) HT.out.1 (by rw [HT.out.2]; rfl))
              clear hx9 c0 c1 hwc
              go_wp2
              go_roundw
              case rel => exact ⟨q + 1, g', c', by omega, by go_num, by rw [HQ.out], by rw [HQ.out]; exact hown, hgr, hxr⟩
              case measure => simp [intOf]; omega
          cases b2
          · go_wp2
            refine wp_region_inv (by kernel_rfl) (.known ?hx9_18_v0 :: .known ?hx9_18_v1 :: .known ?hx9_18_v2 :: .known (.bool false) :: .known ?hx9_18_v4 :: .known ?hx9_18_v5 :: .known ?hx9_18_v6 :: .known ?hx9_18_v7 :: .known ?hx9_18_v8 :: .known ?hx9_18_v9 :: .known (.bool false) :: .known ?hx9_18_v11 :: .known ?hx9_18_v12 :: .known ?hx9_18_v13 :: .known ?hx9_18_v14 :: .known ?hx9_18_v15 :: .known ?hx9_18_v16 :: .known ?hx9_18_v17 :: .known ?hx9_18_v18 :: .known ?hx9_18_v19 :: .known ?hx9_18_v20 :: []) rfl (by kernel_rfl) ?hx9_18_s ?hx9_18_p
            case hx9_18_s =>
              intro vs
              refine ⟨fun w' hxw hj => ?_, fun w' hxw hj => ?_, fun w' hxw hj => ?_, fun w' hxw hj => ?_, fun w' hxw hj => ?_, fun w' hxw hj => ?_, fun w' hxw hj => ?_, fun w' hxw hj => ?_, fun w' hxw hj => ?_, fun w' hxw hj => ?_, fun w' hxw hj => ?_, fun w' hxw hj => ?_, fun w' hxw hj => ?_, fun w' hxw hj => ?_, fun w' hxw hj => ?_, fun w' hxw hj => ?_, fun w' hxw hj => ?_, fun w' hxw hj => ?_, fun w' hxw hj => ?_, fun w' hxw hj => ?_, fun w' hxw hj => ?_, trivial⟩
              · have c0 := Ext.cell_some hxw c0
                have c1 := Ext.cell_some hxw c1
                have hwc := Ext.cell_some hxw hwc
                clear hj
                go_simp
                try go_bits
                first | rfl | (rw [if_pos (by omega), if_pos (by omega)]; go_simp; rfl) | (rw [if_pos (by omega)]; go_simp; rfl) | skip
              · have c0 := Ext.cell_some hxw c0
                have c1 := Ext.cell_some hxw c1
                have hwc := Ext.cell_some hxw hwc
                clear hj
                go_simp
                try go_bits
                first | rfl | (rw [if_pos (by omega), if_pos (by omega)]; go_simp; rfl) | (rw [if_pos (by omega)]; go_simp; rfl) | skip
              · have c0 := Ext.cell_some hxw c0
                have c1 := Ext.cell_some hxw c1
                have hwc := Ext.cell_some hxw hwc
                clear hj
                go_simp
                try go_bits
                first | rfl | (rw [if_pos (by omega), if_pos (by omega)]; go_simp; rfl) | (rw [if_pos (by omega)]; go_simp; rfl) | skip
              · have c0 := Ext.cell_some hxw c0
                have c1 := Ext.cell_some hxw c1
                have hwc := Ext.cell_some hxw hwc
                clear hj
                go_simp
                try go_bits
                exact HI.out.1 _ ((HZ.out.2.ext hxr).ext hxw) ((Reads.ext HZ.out.1 hxr).ext hxw)
              · have c0 := Ext.cell_some hxw c0
                have c1 := Ext.cell_some hxw c1
                have hwc := Ext.cell_some hxw hwc
                clear hj
                go_simp
                try go_bits
                first | rfl | (rw [if_pos (by omega), if_pos (by omega)]; go_simp; rfl) | (rw [if_pos (by omega)]; go_simp; rfl) | skip
              · have c0 := Ext.cell_some hxw c0
                have c1 := Ext.cell_some hxw c1
                have hwc := Ext.cell_some hxw hwc
                clear hj
                go_simp
                try go_bits
                first | rfl | (rw [if_pos (by omega), if_pos (by omega)]; go_simp; rfl) | (rw [if_pos (by omega)]; go_simp; rfl) | skip
              · have c0 := Ext.cell_some hxw c0
                have c1 := Ext.cell_some hxw c1
                have hwc := Ext.cell_some hxw hwc
                clear hj
                go_simp
                try go_bits
                first | rfl | (rw [if_pos (by omega), if_pos (by omega)]; go_simp; rfl) | (rw [if_pos (by omega)]; go_simp; rfl) | skip
              · have c0 := Ext.cell_some hxw c0
                have c1 := Ext.cell_some hxw c1
                have hwc := Ext.cell_some hxw hwc
                clear hj
                go_simp
                try go_bits
                first | rfl | (rw [if_pos (by omega), if_pos (by omega)]; go_simp; rfl) | (rw [if_pos (by omega)]; go_simp; rfl) | skip
              · have c0 := Ext.cell_some hxw c0
                have c1 := Ext.cell_some hxw c1
                have hwc := Ext.cell_some hxw hwc
                clear hj
                go_simp
                try go_bits
                first | rfl | (rw [if_pos (by omega), if_pos (by omega)]; go_simp; rfl) | (rw [if_pos (by omega)]; go_simp; rfl) | skip
              · have c0 := Ext.cell_some hxw c0
                have c1 := Ext.cell_some hxw c1
                have hwc := Ext.cell_some hxw hwc
                clear hj
                go_simp
                try go_bits
                first | rfl | (rw [if_pos (by omega), if_pos (by omega)]; go_simp; rfl) | (rw [if_pos (by omega)]; go_simp; rfl) | skip
              · have c0 := Ext.cell_some hxw c0
                have c1 := Ext.cell_some hxw c1
                have hwc := Ext.cell_some hxw hwc
                clear hj
                go_simp
                try go_bits
                exact HI.out.2.1 _ ((HZ.out.2.ext hxr).ext hxw) ((Reads.ext HZ.out.1 hxr).ext hxw)
              · have c0 := Ext.cell_some hxw c0
                have c1 := Ext.cell_some hxw c1
                have hwc := Ext.cell_some hxw hwc
                clear hj
                go_simp
                try go_bits
                first | rfl | (rw [if_pos (by omega), if_pos (by omega)]; go_simp; rfl) | (rw [if_pos (by omega)]; go_simp; rfl) | skip
              · have c0 := Ext.cell_some hxw c0
                have c1 := Ext.cell_some hxw c1
                have hwc := Ext.cell_some hxw hwc
                clear hj
                go_simp
                try go_bits
                first | rfl | (rw [if_pos (by omega), if_pos (by omega)]; go_simp; rfl) | (rw [if_pos (by omega)]; go_simp; rfl) | skip
              · have c0 := Ext.cell_some hxw c0
                have c1 := Ext.cell_some hxw c1
                have hwc := Ext.cell_some hxw hwc
                clear hj
                go_simp
                try go_bits
                first | rfl | (rw [if_pos (by omega), if_pos (by omega)]; go_simp; rfl) | (rw [if_pos (by omega)]; go_simp; rfl) | skip
              · have c0 := Ext.cell_some hxw c0
                have c1 := Ext.cell_some hxw c1
                have hwc := Ext.cell_some hxw hwc
                clear hj
                go_simp
                try go_bits
                first | rfl | (rw [if_pos (by omega), if_pos (by omega)]; go_simp; rfl) | (rw [if_pos (by omega)]; go_simp; rfl) | skip
              · have c0 := Ext.cell_some hxw c0
                have c1 := Ext.cell_some hxw c1
                have hwc := Ext.cell_some hxw hwc
                clear hj
                go_simp
                try go_bits
                first | rfl | (rw [if_pos (by omega), if_pos (by omega)]; go_simp; rfl) | (rw [if_pos (by omega)]; go_simp; rfl) | skip
              · have c0 := Ext.cell_some hxw c0
                have c1 := Ext.cell_some hxw c1
                have hwc := Ext.cell_some hxw hwc
                clear hj
                go_simp
                try go_bits
                first | rfl | (rw [if_pos (by omega), if_pos (by omega)]; go_simp; rfl) | (rw [if_pos (by omega)]; go_simp; rfl) | skip
              · have c0 := Ext.cell_some hxw c0
                have c1 := Ext.cell_some hxw c1
                have hwc := Ext.cell_some hxw hwc
                clear hj
                go_simp
                try go_bits
                first | rfl | (rw [if_pos (by omega), if_pos (by omega)]; go_simp; rfl) | (rw [if_pos (by omega)]; go_simp; rfl) | skip
              · have c0 := Ext.cell_some hxw c0
                have c1 := Ext.cell_some hxw c1
                have hwc := Ext.cell_some hxw hwc
                clear hj
                go_simp
                try go_bits
                first | rfl | (rw [if_pos (by omega), if_pos (by omega)]; go_simp; rfl) | (rw [if_pos (by omega)]; go_simp; rfl) | skip
              · have c0 := Ext.cell_some hxw c0
                have c1 := Ext.cell_some hxw c1
                have hwc := Ext.cell_some hxw hwc
                clear hj
                go_simp
                try go_bits
                first | rfl | (rw [if_pos (by omega), if_pos (by omega)]; go_simp; rfl) | (rw [if_pos (by omega)]; go_simp; rfl) | skip
              · have c0 := Ext.cell_some hxw c0
                have c1 := Ext.cell_some hxw c1
                have hwc := Ext.cell_some hxw hwc
                clear hj
                go_simp
                try go_bits
                first | rfl | (rw [if_pos (by omega), if_pos (by omega)]; go_simp; rfl) | (rw [if_pos (by omega)]; go_simp; rfl) | skip
            case' hx9_18_p =>
              intro vs w9 hx9 hk
              clear hk
              replace c0 := Ext.cell_some hx9 c0
              replace c1 := Ext.cell_some hx9 c1
              replace hwc := Ext.cell_some hx9 hwc
              replace hown := Own.ext hown hx9
              replace hxr := Ext.trans hxr hx9
              replace hgr := hgr.ext hx9
              go_simp
              have HQ := Lib.hid (candTo_skip (F := F) (st := st) HT.out.1 (by rw [HT.out.2]; rfl))
              clear hx9 c0 c1 hwc
              go_wp2
              go_roundw
              case rel => exact ⟨q + 1, g', c', by omega, by go_num, by rw [HQ.out], by rw [HQ.out]; exact hown, hgr, hxr⟩
              case measure => simp [intOf]; omega
          cases b3
          · go_wp2
            refine wp_region_inv (by kernel_rfl) (.known ?hx9_19_v0 :: .known ?hx9_19_v1 :: .known ?hx9_19_v2 :: .known (.bool false) :: .known ?hx9_19_v4 :: .known ?hx9_19_v5 :: .known ?hx9_19_v6 :: .known ?hx9_19_v7 :: .known ?hx9_19_v8 :: .known ?hx9_19_v9 :: .known (.bool true) :: .known ?hx9_19_v11 :: .known ?hx9_19_v12 :: .known ?hx9_19_v13 :: .known ?hx9_19_v14 :: .known ?hx9_19_v15 :: .known ?hx9_19_v16 :: .known ?hx9_19_v17 :: .known ?hx9_19_v18 :: .known (.bool false) :: .known ?hx9_19_v20 :: []) rfl (by kernel_rfl) ?hx9_19_s ?hx9_19_p
            case hx9_19_s =>
              intro vs
              refine ⟨fun w' hxw hj => ?_, fun w' hxw hj => ?_, fun w' hxw hj => ?_, fun w' hxw hj => ?_, fun w' hxw hj => ?_, fun w' hxw hj => ?_, fun w' hxw hj => ?_, fun w' hxw hj => ?_, fun w' hxw hj => ?_, fun w' hxw hj => ?_, fun w' hxw hj => ?_, fun w' hxw hj => ?_, fun w' hxw hj => ?_, fun w' hxw hj => ?_, fun w' hxw hj => ?_, fun w' hxw hj => ?_, fun w' hxw hj => ?_, fun w' hxw hj => ?_, fun w' hxw hj => ?_, fun w' hxw hj => ?_, fun w' hxw hj => ?_, trivial⟩
              · have c0 := Ext.cell_some hxw c0
                have c1 := Ext.cell_some hxw c1
                have hwc := Ext.cell_some hxw hwc
                clear hj
                go_simp
                try go_bits
                first | rfl | (rw [if_pos (by omega), if_pos (by omega)]; go_simp; rfl) | (rw [if_pos (by omega)]; go_simp; rfl) | skip
              · have c0 := Ext.cell_some hxw c0
                have c1 := Ext.cell_some hxw c1
                have hwc := Ext.cell_some hxw hwc
                clear hj
                go_simp
                try go_bits
                first | rfl | (rw [if_pos (by omega), if_pos (by omega)]; go_simp; rfl) | (rw [if_pos (by omega)]; go_simp; rfl) | skip
              · have c0 := Ext.cell_some hxw c0
                have c1 := Ext.cell_some hxw c1
                have hwc := Ext.cell_some hxw hwc
                clear hj
                go_simp
                try go_bits
                first | rfl | (rw [if_pos (by omega), if_pos (by omega)]; go_simp; rfl) | (rw [if_pos (by omega)]; go_simp; rfl) | skip
              · have c0 := Ext.cell_some hxw c0
                have c1 := Ext.cell_some hxw c1
                have hwc := Ext.cell_some hxw hwc
                clear hj
                go_simp
                try go_bits
                exact HI.out.1 _ ((HZ.out.2.ext hxr).ext hxw) ((Reads.ext HZ.out.1 hxr).ext hxw)
              · have c0 := Ext.cell_some hxw c0
                have c1 := Ext.cell_some hxw c1
                have hwc := Ext.cell_some hxw hwc
                clear hj
                go_simp
                try go_bits
                first | rfl | (rw [if_pos (by omega), if_pos (by omega)]; go_simp; rfl) | (rw [if_pos (by omega)]; go_simp; rfl) | skip
              · have c0 := Ext.cell_some hxw c0
                have c1 := Ext.cell_some hxw c1
                have hwc := Ext.cell_some hxw hwc
                clear hj
                go_simp
                try go_bits
                first | rfl | (rw [if_pos (by omega), if_pos (by omega)]; go_simp; rfl) | (rw [if_pos (by omega)]; go_simp; rfl) | skip
              · have c0 := Ext.cell_some hxw c0
                have c1 := Ext.cell_some hxw c1
                have hwc := Ext.cell_some hxw hwc
                clear hj
                go_simp
                try go_bits
                first | rfl | (rw [if_pos (by omega), if_pos (by omega)]; go_simp; rfl) | (rw [if_pos (by omega)]; go_simp; rfl) | skip
              · have c0 := Ext.cell_some hxw c0
                have c1 := Ext.cell_some hxw c1
                have hwc := Ext.cell_some hxw hwc
                clear hj
                go_simp
                try go_bits
                first | rfl | (rw [if_pos (by omega), if_pos (by omega)]; go_simp; rfl) | (rw [if_pos (by omega)]; go_simp; rfl) | skip
              · have c0 := Ext.cell_some hxw c0
                have c1 := Ext.cell_some hxw c1
                have hwc := Ext.cell_some hxw hwc
                clear hj
                go_simp
                try go_bits
                first | rfl | (rw [if_pos (by omega), if_pos (by omega)]; go_simp; rfl) | (rw [if_pos (by omega)]; go_simp; rfl) | skip
              · have c0 := Ext.cell_some hxw c0
                have c1 := Ext.cell_some hxw c1
                have hwc := Ext.cell_some hxw hwc
                clear hj
                go_simp
                try go_bits
                first | rfl | (rw [if_pos (by omega), if_pos (by omega)]; go_simp; rfl) | (rw [if_pos (by omega)]; go_simp; rfl) | skip
              · have c0 := Ext.cell_some hxw c0
                have c1 := Ext.cell_some hxw c1
                have hwc := Ext.cell_some hxw hwc
                clear hj
                go_simp
                try go_bits
                exact HI.out.2.1 _ ((HZ.out.2.ext hxr).ext hxw) ((Reads.ext HZ.out.1 hxr).ext hxw)
              · have c0 := Ext.cell_some hxw c0
                have c1 := Ext.cell_some hxw c1
                have hwc := Ext.cell_some hxw hwc
                clear hj
                go_simp
                try go_bits
                first | rfl | (rw [if_pos (by omega), if_pos (by omega)]; go_simp; rfl) | (rw [if_pos (by omega)]; go_simp; rfl) | skip
              · have c0 := Ext.cell_some hxw c0
                have c1 := Ext.cell_some hxw c1
                have hwc := Ext.cell_some hxw hwc
                clear hj
                go_simp
                try go_bits
                first | rfl | (rw [if_pos (by omega), if_pos (by omega)]; go_simp; rfl) | (rw [if_pos (by omega)]; go_simp; rfl) | skip
              · have c0 := Ext.cell_some hxw c0
                have c1 := Ext.cell_some hxw c1
                have hwc := Ext.cell_some hxw hwc
                clear hj
                go_simp
                try go_bits
                first | rfl | (rw [if_pos (by omega), if_pos (by omega)]; go_simp; rfl) | (rw [if_pos (by omega)]; go_simp; rfl) | skip
              · have c0 := Ext.cell_some hxw c0
                have c1 := Ext.cell_some hxw c1
                have hwc := Ext.cell_some hxw hwc
                clear hj
                go_simp
                try go_bits
                first | rfl | (rw [if_pos (by omega), if_pos (by omega)]; go_simp; rfl) | (rw [if_pos (by omega)]; go_simp; rfl) | skip
              · have c0 := Ext.cell_some hxw c0
                have c1 := Ext.cell_some hxw c1
                have hwc := Ext.cell_some hxw hwc
                clear hj
                go_simp
                try go_bits
                first | rfl | (rw [if_pos (by omega), if_pos (by omega)]; go_simp; rfl) | (rw [if_pos (by omega)]; go_simp; rfl) | skip
              · have c0 := Ext.cell_some hxw c0
                have c1 := Ext.cell_some hxw c1
                have hwc := Ext.cell_some hxw hwc
                clear hj
                go_simp
                try go_bits
                first | rfl | (rw [if_pos (by omega), if_pos (by omega)]; go_simp; rfl) | (rw [if_pos (by omega)]; go_simp; rfl) | skip
              · have c0 := Ext.cell_some hxw c0
                have c1 := Ext.cell_some hxw c1
                have hwc := Ext.cell_some hxw hwc
                clear hj
                go_simp
                try go_bits
                first | rfl | (rw [if_pos (by omega), if_pos (by omega)]; go_simp; rfl) | (rw [if_pos (by omega)]; go_simp; rfl) | skip
              · have c0 := Ext.cell_some hxw c0
                have c1 := Ext.cell_some hxw c1
                have hwc := Ext.cell_some hxw hwc
                clear hj
                go_simp
                try go_bits
                first | rfl | (rw [if_pos (by omega), if_pos (by omega)]; go_simp; rfl) | (rw [if_pos (by omega)]; go_simp; rfl) | skip
              · have c0 := Ext.cell_some hxw c0
                have c1 := Ext.cell_some hxw c1
                have hwc := Ext.cell_some hxw hwc
                clear hj
                go_simp
                try go_bits
                exact HI.out.2.2 _ ((HZ.out.2.ext hxr).ext hxw) ((Reads.ext HZ.out.1 hxr).ext hxw)
              · have c0 := Ext.cell_some hxw c0
                have c1 := Ext.cell_some hxw c1
                have hwc := Ext.cell_some hxw hwc
                clear hj
                go_simp
                try go_bits
                first | rfl | (rw [if_pos (by omega), if_pos (by omega)]; go_simp; rfl) | (rw [if_pos (by omega)]; go_simp; rfl) | skip
            case' hx9_19_p =>
              intro vs w9 hx9 hk
              clear hk
              replace c0 := Ext.cell_some hx9 c0
              replace c1 := Ext.cell_some hx9 c1
              replace hwc := Ext.cell_some hx9 hwc
              replace hown := Own.ext hown hx9
              replace hxr := Ext.trans hxr hx9
              replace hgr := hgr.ext hx9
              go_simp
              have HQ := Lib.hid (candTo_skip (F := F) (st := st) HT.out.1 (by rw [HT.out.2]; rfl))
              clear hx9 c0 c1 hwc
              go_wp2
              go_roundw
              case rel => exact ⟨q + 1, g', c', by omega, by go_num, by rw [HQ.out], by rw [HQ.out]; exact hown, hgr, hxr⟩
              case measure => simp [intOf]; omega
          · go_wp2
            refine wp_region_inv (by kernel_rfl) (.known ?hx9_20_v0 :: .known ?hx9_20_v1 :: .known ?hx9_20_v2 :: .known (.bool false) :: .known ?hx9_20_v4 :: .known ?hx9_20_v5 :: .known ?hx9_20_v6 :: .known ?hx9_20_v7 :: .known ?hx9_20_v8 :: .known ?hx9_20_v9 :: .known (.bool true) :: .known ?hx9_20_v11 :: .known ?hx9_20_v12 :: .known ?hx9_20_v13 :: .known ?hx9_20_v14 :: .known ?hx9_20_v15 :: .known ?hx9_20_v16 :: .known ?hx9_20_v17 :: .known ?hx9_20_v18 :: .known (.bool true) :: .known ?hx9_20_v20 :: []) rfl (by kernel_rfl) ?hx9_20_s ?hx9_20_p
            case hx9_20_s =>
              intro vs
              refine ⟨fun w' hxw hj => ?_, fun w' hxw hj => ?_, fun w' hxw hj => ?_, fun w' hxw hj => ?_, fun w' hxw hj => ?_, fun w' hxw hj => ?_, fun w' hxw hj => ?_, fun w' hxw hj => ?_, fun w' hxw hj => ?_, fun w' hxw hj => ?_, fun w' hxw hj => ?_, fun w' hxw hj => ?_, fun w' hxw hj => ?_, fun w' hxw hj => ?_, fun w' hxw hj => ?_, fun w' hxw hj => ?_, fun w' hxw hj => ?_, fun w' hxw hj => ?_, fun w' hxw hj => ?_, fun w' hxw hj => ?_, fun w' hxw hj => ?_, trivial⟩
              · have c0 := Ext.cell_some hxw c0
                have c1 := Ext.cell_some hxw c1
                have hwc := Ext.cell_some hxw hwc
                clear hj
                go_simp
                try go_bits
                first | rfl | (rw [if_pos (by omega), if_pos (by omega)]; go_simp; rfl) | (rw [if_pos (by omega)]; go_simp; rfl) | skip
              · have c0 := Ext.cell_some hxw c0
                have c1 := Ext.cell_some hxw c1
                have hwc := Ext.cell_some hxw hwc
                clear hj
                go_simp
                try go_bits
                first | rfl | (rw [if_pos (by omega), if_pos (by omega)]; go_simp; rfl) | (rw [if_pos (by omega)]; go_simp; rfl) | skip
              · have c0 := Ext.cell_some hxw c0
                have c1 := Ext.cell_some hxw c1
                have hwc := Ext.cell_some hxw hwc
                clear hj
                go_simp
                try go_bits
                first | rfl | (rw [if_pos (by omega), if_pos (by omega)]; go_simp; rfl) | (rw [if_pos (by omega)]; go_simp; rfl) | skip
              · have c0 := Ext.cell_some hxw c0
                have c1 := Ext.cell_some hxw c1
                have hwc := Ext.cell_some hxw hwc
                clear hj
                go_simp
                try go_bits
                exact HI.out.1 _ ((HZ.out.2.ext hxr).ext hxw) ((Reads.ext HZ.out.1 hxr).ext hxw)
              · have c0 := Ext.cell_some hxw c0
                have c1 := Ext.cell_some hxw c1
                have hwc := Ext.cell_some hxw hwc
                clear hj
                go_simp
                try go_bits
                first | rfl | (rw [if_pos (by omega), if_pos (by omega)]; go_simp; rfl) | (rw [if_pos (by omega)]; go_simp; rfl) | skip
              · have c0 := Ext.cell_some hxw c0
                have c1 := Ext.cell_some hxw c1
                have hwc := Ext.cell_some hxw hwc
                clear hj
                go_simp
                try go_bits
                first | rfl | (rw [if_pos (by omega), if_pos (by omega)]; go_simp; rfl) | (rw [if_pos (by omega)]; go_simp; rfl) | skip
              · have c0 := Ext.cell_some hxw c0
                have c1 := Ext.cell_some hxw c1
                have hwc := Ext.cell_some hxw hwc
                clear hj
                go_simp
                try go_bits
                first | rfl | (rw [if_pos (by omega), if_pos (by omega)]; go_simp; rfl) | (rw [if_pos (by omega)]; go_simp; rfl) | skip
              · have c0 := Ext.cell_some hxw c0
                have c1 := Ext.cell_some hxw c1
                have hwc := Ext.cell_some hxw hwc
                clear hj
                go_simp
                try go_bits
                first | rfl | (rw [if_pos (by omega), if_pos (by omega)]; go_simp; rfl) | (rw [if_pos (by omega)]; go_simp; rfl) | skip
              · have c0 := Ext.cell_some hxw c0
                have c1 := Ext.cell_some hxw c1
                have hwc := Ext.cell_some hxw hwc
                clear hj
                go_simp
                try go_bits
                first | rfl | (rw [if_pos (by omega), if_pos (by omega)]; go_simp; rfl) | (rw [if_pos (by omega)]; go_simp; rfl) | skip
              · have c0 := Ext.cell_some hxw c0
                have c1 := Ext.cell_some hxw c1
                have hwc := Ext.cell_some hxw hwc
                clear hj
                go_simp
                try go_bits
                first | rfl | (rw [if_pos (by omega), if_pos (by omega)]; go_simp; rfl) | (rw [if_pos (by omega)]; go_simp; rfl) | skip
              · have c0 := Ext.cell_some hxw c0
                have c1 := Ext.cell_some hxw c1
                have hwc := Ext.cell_some hxw hwc
                clear hj
                go_simp
                try go_bits
                exact HI.out.2.1 _ ((HZ.out.2.ext hxr).ext hxw) ((Reads.ext HZ.out.1 hxr).ext hxw)
              · have c0 := Ext.cell_some hxw c0
                have c1 := Ext.cell_some hxw c1
                have hwc := Ext.cell_some hxw hwc
                clear hj
                go_simp
                try go_bits
                first | rfl | (rw [if_pos (by omega), if_pos (by omega)]; go_simp; rfl) | (rw [if_pos (by omega)]; go_simp; rfl) | skip
              · have c0 := Ext.cell_some hxw c0
                have c1 := Ext.cell_some hxw c1
                have hwc := Ext.cell_some hxw hwc
                clear hj
                go_simp
                try go_bits
                first | rfl | (rw [if_pos (by omega), if_pos (by omega)]; go_simp; rfl) | (rw [if_pos (by omega)]; go_simp; rfl) | skip
              · have c0 := Ext.cell_some hxw c0
                have c1 := Ext.cell_some hxw c1
                have hwc := Ext.cell_some hxw hwc
                clear hj
                go_simp
                try go_bits
                first | rfl | (rw [if_pos (by omega), if_pos (by omega)]; go_simp; rfl) | (rw [if_pos (by omega)]; go_simp; rfl) | skip
              · have c0 := Ext.cell_some hxw c0
                have c1 := Ext.cell_some hxw c1
                have hwc := Ext.cell_some hxw hwc
                clear hj
                go_simp
                try go_bits
                first | rfl | (rw [if_pos (by omega), if_pos (by omega)]; go_simp; rfl) | (rw [if_pos (by omega)]; go_simp; rfl) | skip
              · have c0 := Ext.cell_some hxw c0
                have c1 := Ext.cell_some hxw c1
                have hwc := Ext.cell_some hxw hwc
                clear hj
                go_simp
                try go_bits
                first | rfl | (rw [if_pos (by omega), if_pos (by omega)]; go_simp; rfl) | (rw [if_pos (by omega)]; go_simp; rfl) | skip
              · have c0 := Ext.cell_some hxw c0
                have c1 := Ext.cell_some hxw c1
                have hwc := Ext.cell_some hxw hwc
                clear hj
                go_simp
                try go_bits
                first | rfl | (rw [if_pos (by omega), if_pos (by omega)]; go_simp; rfl) | (rw [if_pos (by omega)]; go_simp; rfl) | skip
              · have c0 := Ext.cell_some hxw c0
                have c1 := Ext.cell_some hxw c1
                have hwc := Ext.cell_some hxw hwc
                clear hj
                go_simp
                try go_bits
                first | rfl | (rw [if_pos (by omega), if_pos (by omega)]; go_simp; rfl) | (rw [if_pos (by omega)]; go_simp; rfl) | skip
              · have c0 := Ext.cell_some hxw c0
                have c1 := Ext.cell_some hxw c1
                have hwc := Ext.cell_some hxw hwc
                clear hj
                go_simp
                try go_bits
                first | rfl | (rw [if_pos (by omega), if_pos (by omega)]; go_simp; rfl) | (rw [if_pos (by omega)]; go_simp; rfl) | skip
              · have c0 := Ext.cell_some hxw c0
                have c1 := Ext.cell_some hxw c1
                have hwc := Ext.cell_some hxw hwc
                clear hj
                go_simp
                try go_bits
                exact HI.out.2.2 _ ((HZ.out.2.ext hxr).ext hxw) ((Reads.ext HZ.out.1 hxr).ext hxw)
              · have c0 := Ext.cell_some hxw c0
                have c1 := Ext.cell_some hxw c1
                have hwc := Ext.cell_some hxw hwc
                clear hj
                go_simp
                try go_bits
                first | rfl | (rw [if_pos (by omega), if_pos (by omega)]; go_simp; rfl) | (rw [if_pos (by omega)]; go_simp; rfl) | skip
            case' hx9_20_p =>
              intro vs w9 hx9 hk
              clear hk
              replace c0 := Ext.cell_some hx9 c0
              replace c1 := Ext.cell_some hx9 c1
              replace hwc := Ext.cell_some hx9 hwc
              replace hown := Own.ext hown hx9
              replace hxr := Ext.trans hxr hx9
              replace hgr := hgr.ext hx9
              go_simp
              have HQ := Lib.hid (show putsR (candTo K F st k (q + 1)) = putR u (putsR (candTo K F st k q)) by rw [candTo_take (F := F) (st := st) HT.out.1 (by rw [HT.out.2]; rfl), putsR_snoc])
              have hlen : (putsR (candTo K F st k q)).length ≤ 1000 := by
                rw [(putsR_perm (candTo_nodup (wordsL_nodup hK0 hK3) F st k q)).length_eq]
                have := cand_card hK3 F st (k := k) (j := q) hk4 (.inl hk)
                omega
              have HG := Lib.hid (And.intro hown (And.intro hgr hxr))
              have hgs := (World.ownsRow.lt hown g' rfl).1
              have hsz := hxr.size
              clear hx9 c0 c1 hwc hown hgr hxr
              go_wp2_with fail
              with_reducible refine (spec_l2Put_any w3.heap.size g' c' u (putsR (candTo K F st k q)) _ HG.out.1 hsz hlen).mono ?_
              rintro e w8 ⟨g8, c8, rfl, hown8, hgb8, hmv8⟩
              have hgr8 := HG.out.2.1.step (v' := .slice (some ⟨g8, 0, none⟩) 0 0) ⟨hgb8, moved_of hmv8⟩
              have hxr8 := HG.out.2.2.grown hgb8 (fun k hk => by cases hk; exact hgs)
              clear hgb8 hmv8
              rw [← HQ.out] at hown8 ⊢
              go_wp2
              go_roundw
              case rel => exact ⟨q + 1, g8, c8, by omega, by go_num, rfl, hown8, hgr8, hxr8⟩
              case measure => simp [intOf]; omega
        · have hqN : q = N := by omega
          have hrow := candTo_row (K := K) (F := F) (st := st) hk1
          rw [hqN, HW.out.2.1, hrow] at hown ⊢
          clear hrow
          go_wp2
          go_roundw
          case rel => exact ⟨k + 1, g', c', by omega, by omega, by go_num, rfl, hown, hxr⟩
          case measure => simp [intOf]; omega
    · have hk4' : k = 4 := by omega
      subst hk4'
      have c0 := hxr.cell_some (HB.out.2.2.2.cell 0 _ rfl)
      have c1 := hxr.cell_some (HB.out.2.2.2.cell 1 _ rfl)
      have br := HB.out.2.2.1.ext hxr
      have bo := HB.out.2.2.2.ext hxr
      have hx3 := HB.out.2.2.1.lt
      replace hx := hx.trans hxr
      by_cases h8 : (putsR (candTo K F st 4 0)).length ≤ 8
      · have HN := Lib.hid (HY.out h8)
        have r0 := br.cell 0 _ rfl
        have r1 := br.cell 1 _ rfl
        have f0 := br.frozen 0
        have f1 := br.frozen 1
        have HO := Lib.hid hown
        obtain ⟨n8, hn8⟩ : ∃ n, n = (putsR (candTo K F st 4 0)).length := ⟨_, rfl⟩
        rw [← hn8] at h8 ⊢
        have HO := Lib.hid (show Own wm w3.heap.size 9 (.slice (some ⟨g, 0, none⟩) n8 c) (scells (putsR (candTo K F st 4 0))) by rw [hn8]; exact HO.out)
        clear hown br bo hn8
        go_wp2
        have hg1 : ¬ g = w.heap.size + 1 := by omega
        have h1 := GB.own (GB.setCell (GB.refl wm (some (w.heap.size + 1))) 0 (.int .i64 K)) HO.out (by simp [Value.ownBlock]; omega)
        have h2 := GB.own (GB.setCell (GB.refl _ (some (w.heap.size + 1))) 1 (.slice (some ⟨g, 0, none⟩) n8 c)) h1 (by simp [Value.ownBlock]; omega)
        refine bodyPost_ret (v := .tuple #[.agg #[.int .i64 K, .slice (some ⟨g, 0, none⟩) n8 c], .bool true]) ?_ rfl ⟨.slice (some ⟨g, 0, none⟩) n8 c, by unfold forbL; rw [HN.out]; rfl, by rw [HN.out]; exact h2.mono (by omega), (hx.setCell (by simp) _).setCell (by simp) _⟩
        simp [results, Tryz.results10, go_sem, r0, r1]
      · have HN := Lib.hid (HE.out.2.2.2.2.1 h8)
        obtain ⟨n8, hn8⟩ : ∃ n, n = (putsR (candTo K F st 4 0)).length := ⟨_, rfl⟩
        rw [← hn8] at h8 ⊢
        clear hown hn8
        have r0 := br.cell 0 _ rfl
        have r1 := br.cell 1 _ rfl
        have f0 := br.frozen 0
        have f1 := br.frozen 1
        clear br bo c0 c1
        go_wp2
        refine bodyPost_ret (v := .tuple #[.agg #[.int .i64 0, .slice none 0 0], .bool false]) ?_ rfl ⟨.slice none 0 0, by unfold forbL; rw [HN.out]; rfl, by rw [HN.out]; exact Own.nil _ _ _, (hx.setCell (by simp) _).setCell (by simp) _⟩
        simp [results, Tryz.results10, go_sem, r0, r1]
end Go.Proofs.YtfiembmfkokllaaGreat

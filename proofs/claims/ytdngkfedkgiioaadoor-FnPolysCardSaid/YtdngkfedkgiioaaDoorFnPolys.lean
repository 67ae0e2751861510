/- For every code the law FnPolys returns true (the tied card). No conditions. -/
import Derived.Test.YtdngkfedkgiioaaDoorPolsFacts
import Derived.Test.YtdngkfedkgiioaaDoorDrwW
import Derived.Test.YtdngkfedkgiioaaDoorPkR
import Derived.Test.YtdngkfedkgiioaaDoorLaidTab
import Derived.Test.YtdngkfedkgiioaaDoorPkC
import Derived.Test.YtdngkfedkgiioaaDoorTie
import Derived.Test.YtdngkfedkgiioaaDoorCards
import Derived.LaidLaws
import Derived.LaidMore
import Derived.LaidHandle
import Derived.SevenTiedAt
import Derived.Deep.DeepCutAuto
namespace Go.Proofs.YtdngkfedkgiioaaDoor
open Go.ChangeShapes Go.WideShapes Go.ChangeAt Go.RowKit Go.Mx Go.Cm
open Go.ChangeMaps (open_string shut_string)

set_option maxRecDepth 100000 in
set_option maxHeartbeats 40000000 in
theorem fnPolys_any (v : Value) (xs : List UInt8) (w : World) (h : ReadsB w v xs) (hm : TabC w) :
    Calls Tryd.prog 3 #[v] w fun e w' => e = .returned (.bool true) ∧ Ext w w' := by
  have hx := Ext.refl w
  have HM := Lib.hid hm
  clear hm
  go_enter Tryd.func3, Tryd.ntmps3
  go_wp2_with fail
  with_reducible refine (laws_big_any v xs _ h).mono ?_
  rintro e w1 ⟨b, rfl, rfl⟩
  cases b
  rotate_left
  · go_wp2
    go_ret
    exact ⟨rfl, hx⟩
  go_wp2_with fail
  with_reducible refine (spec_DrawCharPoly_any v xs _ h).mono ?_
  rintro e w1 ⟨um, T, rfl, hT, hy⟩
  replace hx := hx.trans hy
  clear hy
  obtain ⟨pm, cm, rfl⟩ := hT.slice
  go_wp2_with fail
  with_reducible refine (impl_CharPoly_any _ T _ hT).mono ?_
  rintro e w2 ⟨uc, rfl, hC0, hy⟩
  replace hx := hx.trans hy
  replace hT := hT.ext hy
  clear hy
  have hC := hC0.reads
  clear hC0
  go_wp2_with fail
  with_reducible refine (impl_TurnedPoly_any _ T _ hT).mono ?_
  rintro e w3 ⟨ut, rfl, hU0, hy⟩
  replace hx := hx.trans hy
  replace hT := hT.ext hy
  replace hC := hC.ext hy
  clear hy
  have hU := hU0.reads
  clear hU0
  obtain ⟨n, hn⟩ : ∃ n, n = T.length := ⟨_, rfl⟩
  obtain ⟨pc, cc, rfl⟩ := hC.slice
  obtain ⟨pu, cu, rfl⟩ := hU.slice
  obtain ⟨lc, hlc⟩ : ∃ l, l = (cpV T).length := ⟨_, rfl⟩
  obtain ⟨lu, hlu⟩ : ∃ l, l = (tpV T).length := ⟨_, rfl⟩
  rw [← hn] at hT ⊢
  rw [← hlc] at hC ⊢
  rw [← hlu] at hU ⊢
  have HN := Lib.hid (And.intro hn (And.intro hlc hlu))
  clear hn hlc hlu
  go_wp2_with fail
  with_reducible refine (spec_DrawDeterminantOf_any v xs _ (h.ext hx)).mono ?_
  rintro e w4 ⟨ud, D, rfl, hD, hy⟩
  replace hx := hx.trans hy
  replace hT := hT.ext hy
  replace hC := hC.ext hy
  replace hU := hU.ext hy
  clear hy
  have hd1 := impl_DeterminantOf_any ud D
  have hd2 := spec_DeterminantOf_any ud D
  obtain ⟨dx, hdx⟩ : ∃ d, d = detV D := ⟨_, rfl⟩
  obtain ⟨db, hdb⟩ : ∃ d, d = sqOk D := ⟨_, rfl⟩
  rw [← hdx, ← hdb] at hd1 hd2
  have H1 := Lib.hid (And.intro hd1 hd2)
  clear hd1 hd2 hdx hdb
  go_wp2_with fail
  with_reducible refine (H1.out.1 _ hD).mono ?_
  rintro e w5 ⟨rfl, hy⟩
  replace hx := hx.trans hy
  replace hT := hT.ext hy
  replace hC := hC.ext hy
  replace hU := hU.ext hy
  replace hD := hD.ext hy
  clear hy
  go_wp2_with fail
  with_reducible refine (H1.out.2 _ hD).mono ?_
  rintro e w6 ⟨rfl, hy⟩
  replace hx := hx.trans hy
  replace hT := hT.ext hy
  replace hC := hC.ext hy
  replace hU := hU.ext hy
  replace hD := hD.ext hy
  clear hy
  clear hD H1
  go_wp2_with fail
  with_reducible refine (spec_DrawMultiplyPolys_any v xs _ (h.ext hx)).mono ?_
  rintro e w7 ⟨ua, ub, A, B, rfl, hA, hB, ⟨hAl, hAz⟩, ⟨hBl, hBz⟩, hy⟩
  replace hx := hx.trans hy
  replace hT := hT.ext hy
  replace hC := hC.ext hy
  replace hU := hU.ext hy
  clear hy
  obtain ⟨pa, ca, rfl⟩ := hA.slice
  obtain ⟨pb, cb, rfl⟩ := hB.slice
  have hal := hA.len.2
  go_wp2_with fail
  with_reducible refine (impl_MultiplyPolys_any _ _ A B _ hA hB).mono ?_
  rintro e w8 ⟨up, rfl, hP0, hy⟩
  replace hx := hx.trans hy
  replace hT := hT.ext hy
  replace hC := hC.ext hy
  replace hU := hU.ext hy
  replace hA := hA.ext hy
  replace hB := hB.ext hy
  clear hy
  have hP := hP0.reads
  clear hP0
  obtain ⟨pp, cp, rfl⟩ := hP.slice
  have hpl := hP.len.2
  obtain ⟨la, hla⟩ : ∃ l, l = A.length := ⟨_, rfl⟩
  obtain ⟨lb, hlb⟩ : ∃ l, l = B.length := ⟨_, rfl⟩
  obtain ⟨lp, hlp⟩ : ∃ l, l = (polyMul A B).length := ⟨_, rfl⟩
  rw [← hla] at hA hal ⊢
  rw [← hlb] at hB ⊢
  rw [← hlp] at hP hpl ⊢
  have HL := Lib.hid (And.intro hla (And.intro hlb (And.intro hlp (And.intro hAz hBz))))
  rw [← hla] at hAl
  rw [← hlb] at hBl
  clear hla hlb hlp hAz hBz
  go_wp2_with fail
  with_reducible refine (spec_DrawPolyAt_any v xs _ (h.ext hx)).mono ?_
  rintro e w9 ⟨uq, Q, at', rfl, hQ, -, hy⟩
  replace hx := hx.trans hy
  replace hT := hT.ext hy
  replace hC := hC.ext hy
  replace hU := hU.ext hy
  replace hA := hA.ext hy
  replace hB := hB.ext hy
  replace hP := hP.ext hy
  clear hy
  have hd1 := impl_PolyAt_any uq Q at'
  have hd2 := spec_PolyAt_any uq Q at'
  obtain ⟨dx2, hdx⟩ : ∃ d, d = atV Q at' := ⟨_, rfl⟩
  obtain ⟨db2, hdb⟩ : ∃ d, d = atOk Q at' := ⟨_, rfl⟩
  rw [← hdx, ← hdb] at hd1 hd2
  have H1 := Lib.hid (And.intro hd1 hd2)
  clear hd1 hd2 hdx hdb
  go_wp2_with fail
  with_reducible refine (H1.out.1 _ hQ).mono ?_
  rintro e w' ⟨rfl, rfl⟩
  go_wp2_with fail
  with_reducible refine (H1.out.2 _ hQ).mono ?_
  rintro e w' ⟨rfl, rfl⟩
  clear hQ H1
  go_wp2_with fail
  with_reducible refine (spec_CharPoly_any _ T _ hT).mono ?_
  rintro e w10 ⟨u1, rfl, h1, hy⟩
  replace hx := hx.trans hy
  replace hT := hT.ext hy
  replace hC := hC.ext hy
  replace hU := hU.ext hy
  replace hA := hA.ext hy
  replace hB := hB.ext hy
  replace hP := hP.ext hy
  clear hy
  go_wp2_with fail
  with_reducible refine (laws_sameInts_same _ u1 (cpV T) _ hC h1).mono ?_
  rintro e w11 ⟨rfl, hy⟩
  replace hx := hx.trans hy
  replace hT := hT.ext hy
  replace hC := hC.ext hy
  replace hU := hU.ext hy
  replace hA := hA.ext hy
  replace hB := hB.ext hy
  replace hP := hP.ext hy
  replace h1 := h1.ext hy
  clear hy
  clear h1
  go_wp2_with fail
  with_reducible refine (spec_TurnedPoly_any _ T _ hT).mono ?_
  rintro e w12 ⟨u2, rfl, h1, hy⟩
  replace hx := hx.trans hy
  replace hT := hT.ext hy
  replace hC := hC.ext hy
  replace hU := hU.ext hy
  replace hA := hA.ext hy
  replace hB := hB.ext hy
  replace hP := hP.ext hy
  clear hy
  go_wp2_with fail
  with_reducible refine (laws_sameInts_same _ u2 (tpV T) _ hU h1).mono ?_
  rintro e w13 ⟨rfl, hy⟩
  replace hx := hx.trans hy
  replace hT := hT.ext hy
  replace hC := hC.ext hy
  replace hU := hU.ext hy
  replace hA := hA.ext hy
  replace hB := hB.ext hy
  replace hP := hP.ext hy
  replace h1 := h1.ext hy
  clear hy
  clear h1
  go_wp2_with fail
  with_reducible refine (spec_MultiplyPolys_any _ _ A B _ hA hB).mono ?_
  rintro e w14 ⟨u3, rfl, h1, hy⟩
  replace hx := hx.trans hy
  replace hT := hT.ext hy
  replace hC := hC.ext hy
  replace hU := hU.ext hy
  replace hA := hA.ext hy
  replace hB := hB.ext hy
  replace hP := hP.ext hy
  clear hy
  go_wp2_with fail
  with_reducible refine (laws_sameInts_same _ u3 (polyMul A B) _ hP h1).mono ?_
  rintro e w15 ⟨rfl, hy⟩
  replace hx := hx.trans hy
  replace hT := hT.ext hy
  replace hC := hC.ext hy
  replace hU := hU.ext hy
  replace hA := hA.ext hy
  replace hB := hB.ext hy
  replace hP := hP.ext hy
  replace h1 := h1.ext hy
  clear hy
  clear h1
  have hs1 := impl_IsSmall_any (.slice pm n cm) T
  have hs2 := spec_IsSmall_any (.slice pm n cm) T
  obtain ⟨sm, hsm⟩ : ∃ s, s = isSm T := ⟨_, rfl⟩
  rw [← hsm] at hs1 hs2
  have HS := Lib.hid (And.intro hs1 (And.intro hs2 hsm))
  clear hs1 hs2 hsm
  go_wp2_with fail
  with_reducible refine (HS.out.1 _ hT).mono ?_
  rintro e w' ⟨rfl, rfl⟩
  go_wp2_with fail
  with_reducible refine (HS.out.2.1 _ hT).mono ?_
  rintro e w' ⟨rfl, rfl⟩
  have hs1 := impl_IsRootless_any (.slice pm n cm) T
  have hs2 := spec_IsRootless_any (.slice pm n cm) T
  obtain ⟨rt, hrt⟩ : ∃ s, s = (isSm T && decide (detL T.length T ≠ 0)) := ⟨_, rfl⟩
  rw [← hrt] at hs1 hs2
  have HR := Lib.hid (And.intro hs1 (And.intro hs2 hrt))
  clear hs1 hs2 hrt
  go_wp2_with fail
  with_reducible refine (HR.out.1 _ hT).mono ?_
  rintro e w16 ⟨rfl, hy⟩
  replace hx := hx.trans hy
  replace hT := hT.ext hy
  replace hC := hC.ext hy
  replace hU := hU.ext hy
  replace hA := hA.ext hy
  replace hB := hB.ext hy
  replace hP := hP.ext hy
  clear hy
  go_wp2_with fail
  with_reducible refine (HR.out.2.1 _ hT).mono ?_
  rintro e w17 ⟨rfl, hy⟩
  replace hx := hx.trans hy
  replace hT := hT.ext hy
  replace hC := hC.ext hy
  replace hU := hU.ext hy
  replace hA := hA.ext hy
  replace hB := hB.ext hy
  replace hP := hP.ext hy
  clear hy
  have hs1 := fun w hw ht => impl_PolyText_any (.slice pa la ca) A w hw HL.out.2.2.2.1 (by rw [← HL.out.1]; omega) ht
  have hs2 := fun w hw => spec_PolyText_any (.slice pa la ca) A w hw HL.out.2.2.2.1 (by rw [← HL.out.1]; omega)
  obtain ⟨pt, hpt⟩ : ∃ s, s = mkS (polyT A) := ⟨_, rfl⟩
  rw [← hpt] at hs1 hs2
  have HP := Lib.hid (And.intro hs1 hs2)
  clear hs1 hs2 hpt
  go_wp2_with fail
  with_reducible refine (HP.out.1 _ hA (HM.out.ext hx)).mono ?_
  rintro e w18 ⟨rfl, hy⟩
  replace hx := hx.trans hy
  replace hT := hT.ext hy
  replace hC := hC.ext hy
  replace hU := hU.ext hy
  replace hA := hA.ext hy
  replace hB := hB.ext hy
  replace hP := hP.ext hy
  clear hy
  go_wp2_with fail
  with_reducible refine (HP.out.2 _ hA).mono ?_
  rintro e w19 ⟨rfl, hy⟩
  replace hx := hx.trans hy
  replace hT := hT.ext hy
  replace hC := hC.ext hy
  replace hU := hU.ext hy
  replace hA := hA.ext hy
  replace hB := hB.ext hy
  replace hP := hP.ext hy
  clear hy
  clear HP
  obtain ⟨cd, hcd⟩ : ∃ c, c = (decide (0 < lp) && (decide (la ≤ 4) && decide (lb ≤ 2))) := ⟨_, rfl⟩
  have HC := Lib.hid hcd
  clear hcd
  have hb2 := hB.len.2
  go_upto_region 16 with fail
  go_cut [149] from 137 to 149 (fun s149 wx => s149 = .bool cd ∧ wx = w19)
  case first =>
    by_cases h1 : 0 < lp
    · by_cases h2 : la ≤ 4
      · by_cases h3 : lb ≤ 2
        · have HV := Lib.hid (show cd = true by rw [HC.out, decide_eq_true h1, decide_eq_true h2, decide_eq_true h3]; rfl)
          go_wp2
          go_meet
          exact ⟨by first | (rw [HV.out]; done) | (rw [HV.out]; congr 1; first | (apply decide_eq_true; omega) | (apply decide_eq_false; omega)), rfl⟩
        · have HV := Lib.hid (show cd = false by rw [HC.out, decide_eq_false h3, Bool.and_false, Bool.and_false])
          go_wp2
          go_meet
          exact ⟨by first | (rw [HV.out]; done) | (rw [HV.out]; congr 1; first | (apply decide_eq_true; omega) | (apply decide_eq_false; omega)), rfl⟩
      · have HV := Lib.hid (show cd = false by rw [HC.out, decide_eq_false h2, Bool.false_and, Bool.and_false])
        go_wp2
        go_meet
        exact ⟨by first | (rw [HV.out]; done) | (rw [HV.out]; congr 1; first | (apply decide_eq_true; omega) | (apply decide_eq_false; omega)), rfl⟩
    · have HV := Lib.hid (show cd = false by rw [HC.out, decide_eq_false h1]; rfl)
      go_wp2
      go_meet
      exact ⟨by first | (rw [HV.out]; done) | (rw [HV.out]; congr 1; first | (apply decide_eq_true; omega) | (apply decide_eq_false; omega)), rfl⟩
  case rest =>
  obtain ⟨rfl, rfl⟩ := hcut
  clear HC
  obtain ⟨wk, rfl⟩ : ∃ wk : World, wk = wc := ⟨_, rfl⟩
  go_upto_if 149 with fail
  go_cut [20, 21, 22, 23, 24, 25] from 150 to 178 (fun _ _ _ _ _ _ wx => Ext wk wx)
  case first =>
    cases cd
    · go_wp2
      go_meet
      exact Ext.refl _
    · have ha2 := impl_PolyAt_any (.slice pa la ca) A 2
      have hb3 := impl_PolyAt_any (.slice pb lb cb) B 2
      have hp2 := impl_PolyAt_any (.slice pp lp cp) (polyMul A B) 2
      have hmul := two_mul (a := A) (b := B)
      obtain ⟨fa, hfa⟩ : ∃ x, x = atV A 2 := ⟨_, rfl⟩
      obtain ⟨fb, hfb⟩ : ∃ x, x = atV B 2 := ⟨_, rfl⟩
      obtain ⟨fp, hfp⟩ : ∃ x, x = atV (polyMul A B) 2 := ⟨_, rfl⟩
      obtain ⟨oa, hoa⟩ : ∃ x, x = atOk A 2 := ⟨_, rfl⟩
      obtain ⟨ob, hob⟩ : ∃ x, x = atOk B 2 := ⟨_, rfl⟩
      obtain ⟨op, hop⟩ : ∃ x, x = atOk (polyMul A B) 2 := ⟨_, rfl⟩
      rw [← hfa, ← hoa] at ha2
      rw [← hfb, ← hob] at hb3
      rw [← hfp, ← hop] at hp2
      rw [← hfa, ← hfb, ← hfp, ← hoa, ← hob, ← hop] at hmul
      have HV := Lib.hid (And.intro ha2 (And.intro hb3 (And.intro hp2 hmul)))
      clear ha2 hb3 hp2 hmul hfa hfb hfp hoa hob hop
      go_wp2_with fail
      refine (HV.out.1 _ hA).mono ?_
      rintro e w' ⟨rfl, rfl⟩
      go_wp2_with fail
      refine (HV.out.2.1 _ hB).mono ?_
      rintro e w' ⟨rfl, rfl⟩
      go_wp2_with fail
      refine (HV.out.2.2.1 _ hP).mono ?_
      rintro e w' ⟨rfl, rfl⟩
      cases oa
      · go_wp2
        go_meet
        exact Ext.refl _
      cases ob
      · go_wp2
        go_meet
        exact Ext.refl _
      cases op
      · go_wp2
        go_meet
        exact Ext.refl _
      obtain ⟨rfl, hm1, hm2⟩ := HV.out.2.2.2 rfl rfl rfl
      go_wp2
      go_meet
      exact Ext.refl _
  case rest =>
  have hy := hcut
  clear hA hB hP hal hpl hb2 hAl hBl HL
  replace hx := hx.trans hy
  replace hT := hT.ext hy
  replace hC := hC.ext hy
  replace hU := hU.ext hy
  clear hy hcut
  go_wp2_with fail
  with_reducible refine (HS.out.1 _ hT).mono ?_
  rintro e w' ⟨rfl, rfl⟩
  cases sm
  · obtain rfl : lc = 0 := by rw [HN.out.2.1, cpV_no HS.out.2.2.symm, List.length_nil]
    obtain rfl : lu = 0 := by rw [HN.out.2.2, tpV_no HS.out.2.2.symm, List.length_nil]
    go_wp2
    go_ret
    exact ⟨rfl, hx⟩
  obtain ⟨k, dt, sg, tr, ⟨hk, hn4, hn1⟩, ⟨hsg, hdt, hsd⟩, ⟨hao, hav⟩, ⟨hlc, hcn, hck⟩, ⟨htr, htb⟩, ⟨hlu, hu0⟩, hct, hmt, hrr⟩ := small_facts HS.out.2.2.symm
  have hpa := impl_PolyAt_any (.slice pc lc cc) (cpV T) 0
  rw [hao, hav] at hpa
  have hde := spec_DeterminantOf_any (.slice pm n cm) T
  rw [hdt] at hde
  have htc := fun w hw => spec_TraceOf_any (.slice pm n cm) T w hw hmt
  rw [htr] at htc
  have hir := HR.out.1
  rw [HR.out.2.2, hrr] at hir
  rw [← HN.out.1] at hk hn4 hn1 hsg hcn hlc
  rw [← HN.out.2.1] at hlc
  rw [← HN.out.2.2] at hlu
  obtain ⟨sd, hsde⟩ : ∃ sd, sd = sg * dt := ⟨_, rfl⟩
  have hcr := hC.len.2
  have hur := hU.len.2
  obtain ⟨bc, oc, rfl, hc1⟩ := hC.at n (by rw [← HN.out.2.1]; omega)
  obtain ⟨_, _, e, hc2⟩ := hC.at k (by rw [← HN.out.2.1]; omega)
  cases e
  obtain ⟨bu, ou, rfl, hu1⟩ := hU.at 0 (by rw [← HN.out.2.2]; exact hlu)
  rw [hcn] at hc1
  rw [hck] at hc2
  rw [hu0, Nat.add_zero] at hu1
  have HF := Lib.hid (And.intro hpa (And.intro hde (And.intro htc (And.intro hir (And.intro hct (And.intro hmt (And.intro hsg (And.intro hT hC))))))))
  clear hpa hde htc hir hct hmt hsg hcn hck hu0 hrr htr hdt hav hao HS HR hsde sd
  obtain ⟨wz, rfl⟩ : ∃ wz : World, wz = wc := ⟨_, rfl⟩
  go_wp2_with fail
  refine (HF.out.1 _ hC).mono ?_
  rintro e w' ⟨rfl, rfl⟩
  go_wp2_with fail
  with_reducible refine (HF.out.2.1 _ hT).mono ?_
  rintro e wd ⟨rfl, hy⟩
  replace hx := hx.trans hy
  replace hT := hT.ext hy
  replace hC := hC.ext hy
  replace hc1 := hy.cell_some hc1
  replace hc2 := hy.cell_some hc2
  replace hu1 := hy.cell_some hu1
  clear hy hU
  go_upto_region 27 with fail
  go_cut [203] from 200 to 203 (fun s203 wx => s203 = .bool (decide (n % 2 = 1)) ∧ wx = wd)
  case first =>
    clear HF hT hC hc1 hc2 hu1 hlc hk
    obtain rfl | rfl | rfl | rfl : n = 1 ∨ n = 2 ∨ n = 3 ∨ n = 4 := by omega
    all_goals (go_wp2; go_meet; exact ⟨rfl, rfl⟩)
  case rest =>
  obtain ⟨rfl, rfl⟩ := hcut
  obtain ⟨wy, rfl⟩ : ∃ wy : World, wy = wc := ⟨_, rfl⟩
  go_upto_if 203 with fail
  go_cut [30] from 200 to 203 (fun s30 wx => s30 = .int .i64 sg ∧ wx = wy)
  case first =>
    by_cases hpar : n % 2 = 1
    · obtain rfl : sg = -1 := by rw [HF.out.2.2.2.2.2.2.1, if_pos hpar]
      go_wp2
      go_meet
      exact ⟨rfl, rfl⟩
    · obtain rfl : sg = 1 := by rw [HF.out.2.2.2.2.2.2.1, if_neg hpar]
      go_wp2
      go_meet
      exact ⟨rfl, rfl⟩
  case rest =>
  obtain ⟨rfl, rfl⟩ := hcut
  have e1 : ((lc : Int) == (n : Int) + 1) = true := by simp [hlc]
  have e2 : decide ((0 : Int) < (lu : Int)) = true := by simp; omega
  have e3 : wrap64 (sg * dt) = sg * dt := Go.IntWalk.wrap64_in _ ⟨by omega, by omega⟩
  have e4 : wrap64 (-tr) = -tr := Go.IntWalk.wrap64_in _ ⟨by omega, by omega⟩
  have hnl : n < lc := by omega
  have hkl : k < lc := by omega
  go_wp2_with fail
  refine wp_region_inv (by kernel_rfl) (.known ?hy_1_v0 :: .known ?hy_1_v1 :: .known ?hy_1_v2 :: .known ?hy_1_v3 :: .known ?hy_1_v4 :: .known (.bool true) :: .known ?hy_1_v6 :: .known ?hy_1_v7 :: .known ?hy_1_v8 :: .known ?hy_1_v9 :: .known ?hy_1_v10 :: .known ?hy_1_v11 :: .known (.bool true) :: .known ?hy_1_v13 :: .known ?hy_1_v14 :: .known ?hy_1_v15 :: .known ?hy_1_v16 :: .known (.bool true) :: .known ?hy_1_v18 :: .known ?hy_1_v19 :: .known ?hy_1_v20 :: .known ?hy_1_v21 :: .known ?hy_1_v22 :: .known (.bool true) :: .known ?hy_1_v24 :: .known ?hy_1_v25 :: .known ?hy_1_v26 :: .known ?hy_1_v27 :: .known ?hy_1_v28 :: .known ?hy_1_v29 :: .known ?hy_1_v30 :: .known ?hy_1_v31 :: .known ?hy_1_v32 :: .known (.bool true) :: .known ?hy_1_v34 :: .known ?hy_1_v35 :: .known ?hy_1_v36 :: .known ?hy_1_v37 :: .known ?hy_1_v38 :: .known (.int .i64 (k : Int)) :: .known ?hy_1_v40 :: .known ?hy_1_v41 :: .known ?hy_1_v42 :: .known (.int .i64 tr) :: .known ?hy_1_v44 :: .known (.bool true) :: .known ?hy_1_v46 :: .known ?hy_1_v47 :: .known ?hy_1_v48 :: .such (RowsJ (turnM T)) (RowsJ.ok _) :: .such (NumsJ (cpV T)) (NumsJ.ok _) :: .known ?hy_1_v51 :: .known (.bool true) :: .known ?hy_1_v53 :: .known ?hy_1_v54 :: .known ?hy_1_v55 :: .known (.bool (dt != 0)) :: .known ?hy_1_v57 :: .known ?hy_1_v58 :: .known ?hy_1_v59 :: .known ?hy_1_v60 :: .known ?hy_1_v61 :: []) rfl (by kernel_rfl) ?hy_1_s ?hy_1_p
  case hy_1_s =>
    intro vs
    refine ⟨fun w' hxw hj => ?_, fun w' hxw hj => ?_, fun w' hxw hj => ?_, fun w' hxw hj => ?_, fun w' hxw hj => ?_, fun w' hxw hj => ?_, fun w' hxw hj => ?_, fun w' hxw hj => ?_, fun w' hxw hj => ?_, fun w' hxw hj => ?_, fun w' hxw hj => ?_, fun w' hxw hj => ?_, fun w' hxw hj => ?_, fun w' hxw hj => ?_, fun w' hxw hj => ?_, fun w' hxw hj => ?_, fun w' hxw hj => ?_, fun w' hxw hj => ?_, fun w' hxw hj => ?_, fun w' hxw hj => ?_, fun w' hxw hj => ?_, fun w' hxw hj => ?_, fun w' hxw hj => ?_, fun w' hxw hj => ?_, fun w' hxw hj => ?_, fun w' hxw hj => ?_, fun w' hxw hj => ?_, fun w' hxw hj => ?_, fun w' hxw hj => ?_, fun w' hxw hj => ?_, fun w' hxw hj => ?_, fun w' hxw hj => ?_, fun w' hxw hj => ?_, fun w' hxw hj => ?_, fun w' hxw hj => ?_, fun w' hxw hj => ?_, fun w' hxw hj => ?_, fun w' hxw hj => ?_, fun w' hxw hj => ?_, fun w' hxw hj => ?_, fun w' hxw hj => ?_, fun w' hxw hj => ?_, fun w' hxw hj => ?_, fun w' hxw hj => ?_, fun w' hxw hj => ?_, fun w' hxw hj => ?_, fun w' hxw hj => ?_, fun w' hxw hj => ?_, fun w' hxw hj => ?_, fun w' hxw hj => ?_, fun w' hxw hj => ?_, fun w' hxw hj => ?_, fun w' hxw hj => ?_, fun w' hxw hj => ?_, fun w' hxw hj => ?_, fun w' hxw hj => ?_, fun w' hxw hj => ?_, fun w' hxw hj => ?_, fun w' hxw hj => ?_, fun w' hxw hj => ?_, fun w' hxw hj => ?_, fun w' hxw hj => ?_, trivial⟩
    · have hc1 := Ext.cell_some hxw hc1
      have hc2 := Ext.cell_some hxw hc2
      have hu1 := Ext.cell_some hxw hu1
      clear hj
      go_simp
      try go_bits
      first | rfl | (rw [if_pos (by omega), if_pos (by omega)]; go_simp; rfl) | (rw [if_pos (by omega)]; go_simp; rfl) | skip
    · have hc1 := Ext.cell_some hxw hc1
      have hc2 := Ext.cell_some hxw hc2
      have hu1 := Ext.cell_some hxw hu1
      clear hj
      go_simp
      try go_bits
      first | rfl | (rw [if_pos (by omega), if_pos (by omega)]; go_simp; rfl) | (rw [if_pos (by omega)]; go_simp; rfl) | skip
    · have hc1 := Ext.cell_some hxw hc1
      have hc2 := Ext.cell_some hxw hc2
      have hu1 := Ext.cell_some hxw hu1
      clear hj
      go_simp
      try go_bits
      first | rfl | (rw [if_pos (by omega), if_pos (by omega)]; go_simp; rfl) | (rw [if_pos (by omega)]; go_simp; rfl) | skip
    · have hc1 := Ext.cell_some hxw hc1
      have hc2 := Ext.cell_some hxw hc2
      have hu1 := Ext.cell_some hxw hu1
      clear hj
      go_simp
      try go_bits
      first | rfl | (rw [if_pos (by omega), if_pos (by omega)]; go_simp; rfl) | (rw [if_pos (by omega)]; go_simp; rfl) | skip
    · have hc1 := Ext.cell_some hxw hc1
      have hc2 := Ext.cell_some hxw hc2
      have hu1 := Ext.cell_some hxw hu1
      clear hj
      go_simp
      try go_bits
      first | rfl | (rw [if_pos (by omega), if_pos (by omega)]; go_simp; rfl) | (rw [if_pos (by omega)]; go_simp; rfl) | skip
    · have hc1 := Ext.cell_some hxw hc1
      have hc2 := Ext.cell_some hxw hc2
      have hu1 := Ext.cell_some hxw hu1
      clear hj
      go_simp
      try go_bits
      (try rw [e1])
      (try exact hlc)
      (try (simp; omega))
    · have hc1 := Ext.cell_some hxw hc1
      have hc2 := Ext.cell_some hxw hc2
      have hu1 := Ext.cell_some hxw hu1
      clear hj
      go_simp
      try go_bits
      first | rfl | (rw [if_pos (by omega), if_pos (by omega)]; go_simp; rfl) | (rw [if_pos (by omega)]; go_simp; rfl) | skip
    · have hc1 := Ext.cell_some hxw hc1
      have hc2 := Ext.cell_some hxw hc2
      have hu1 := Ext.cell_some hxw hu1
      clear hj
      go_simp
      try go_bits
      first | rfl | (rw [if_pos (by omega), if_pos (by omega)]; go_simp; rfl) | (rw [if_pos (by omega)]; go_simp; rfl) | skip
    · have hc1 := Ext.cell_some hxw hc1
      have hc2 := Ext.cell_some hxw hc2
      have hu1 := Ext.cell_some hxw hu1
      clear hj
      go_simp
      try go_bits
      first | rfl | (rw [if_pos (by omega), if_pos (by omega)]; go_simp; rfl) | (rw [if_pos (by omega)]; go_simp; rfl) | skip
    · have hc1 := Ext.cell_some hxw hc1
      have hc2 := Ext.cell_some hxw hc2
      have hu1 := Ext.cell_some hxw hu1
      clear hj
      go_simp
      try go_bits
      first | rfl | (rw [if_pos (by omega), if_pos (by omega)]; go_simp; rfl) | (rw [if_pos (by omega)]; go_simp; rfl) | skip
    · have hc1 := Ext.cell_some hxw hc1
      have hc2 := Ext.cell_some hxw hc2
      have hu1 := Ext.cell_some hxw hu1
      clear hj
      go_simp
      try go_bits
      first | rfl | (rw [if_pos (by omega), if_pos (by omega)]; go_simp; rfl) | (rw [if_pos (by omega)]; go_simp; rfl) | skip
    · have hc1 := Ext.cell_some hxw hc1
      have hc2 := Ext.cell_some hxw hc2
      have hu1 := Ext.cell_some hxw hu1
      clear hj
      go_simp
      try go_bits
      first | rfl | (rw [if_pos (by omega), if_pos (by omega)]; go_simp; rfl) | (rw [if_pos (by omega)]; go_simp; rfl) | skip
    · have hc1 := Ext.cell_some hxw hc1
      have hc2 := Ext.cell_some hxw hc2
      have hu1 := Ext.cell_some hxw hu1
      clear hj
      go_simp
      try go_bits
      (try rfl)
      (try simp)
    · have hc1 := Ext.cell_some hxw hc1
      have hc2 := Ext.cell_some hxw hc2
      have hu1 := Ext.cell_some hxw hu1
      clear hj
      go_simp
      try go_bits
      first | rfl | (rw [if_pos (by omega), if_pos (by omega)]; go_simp; rfl) | (rw [if_pos (by omega)]; go_simp; rfl) | skip
    · have hc1 := Ext.cell_some hxw hc1
      have hc2 := Ext.cell_some hxw hc2
      have hu1 := Ext.cell_some hxw hu1
      clear hj
      go_simp
      try go_bits
      first | rfl | (rw [if_pos (by omega), if_pos (by omega)]; go_simp; rfl) | (rw [if_pos (by omega)]; go_simp; rfl) | skip
    · have hc1 := Ext.cell_some hxw hc1
      have hc2 := Ext.cell_some hxw hc2
      have hu1 := Ext.cell_some hxw hu1
      clear hj
      go_simp
      try go_bits
      first | rfl | (rw [if_pos (by omega), if_pos (by omega)]; go_simp; rfl) | (rw [if_pos (by omega)]; go_simp; rfl) | skip
    · have hc1 := Ext.cell_some hxw hc1
      have hc2 := Ext.cell_some hxw hc2
      have hu1 := Ext.cell_some hxw hu1
      clear hj
      go_simp
      try go_bits
      first | rfl | (rw [if_pos (by omega), if_pos (by omega)]; go_simp; rfl) | (rw [if_pos (by omega)]; go_simp; rfl) | skip
    · have hc1 := Ext.cell_some hxw hc1
      have hc2 := Ext.cell_some hxw hc2
      have hu1 := Ext.cell_some hxw hu1
      clear hj
      go_simp
      try go_bits
      (try rw [e2])
      (try (simp; omega))
      (try omega)
    · have hc1 := Ext.cell_some hxw hc1
      have hc2 := Ext.cell_some hxw hc2
      have hu1 := Ext.cell_some hxw hu1
      clear hj
      go_simp
      try go_bits
      first | rfl | (rw [if_pos (by omega), if_pos (by omega)]; go_simp; rfl) | (rw [if_pos (by omega)]; go_simp; rfl) | skip
    · have hc1 := Ext.cell_some hxw hc1
      have hc2 := Ext.cell_some hxw hc2
      have hu1 := Ext.cell_some hxw hu1
      clear hj
      go_simp
      try go_bits
      first | rfl | (rw [if_pos (by omega), if_pos (by omega)]; go_simp; rfl) | (rw [if_pos (by omega)]; go_simp; rfl) | skip
    · have hc1 := Ext.cell_some hxw hc1
      have hc2 := Ext.cell_some hxw hc2
      have hu1 := Ext.cell_some hxw hu1
      clear hj
      go_simp
      try go_bits
      first | rfl | (rw [if_pos (by omega), if_pos (by omega)]; go_simp; rfl) | (rw [if_pos (by omega)]; go_simp; rfl) | skip
    · have hc1 := Ext.cell_some hxw hc1
      have hc2 := Ext.cell_some hxw hc2
      have hu1 := Ext.cell_some hxw hu1
      clear hj
      go_simp
      try go_bits
      first | rfl | (rw [if_pos (by omega), if_pos (by omega)]; go_simp; rfl) | (rw [if_pos (by omega)]; go_simp; rfl) | skip
    · have hc1 := Ext.cell_some hxw hc1
      have hc2 := Ext.cell_some hxw hc2
      have hu1 := Ext.cell_some hxw hu1
      clear hj
      go_simp
      try go_bits
      first | rfl | (rw [if_pos (by omega), if_pos (by omega)]; go_simp; rfl) | (rw [if_pos (by omega)]; go_simp; rfl) | skip
    · have hc1 := Ext.cell_some hxw hc1
      have hc2 := Ext.cell_some hxw hc2
      have hu1 := Ext.cell_some hxw hu1
      clear hj
      go_simp
      try go_bits
      (try rfl)
      (try simp)
    · have hc1 := Ext.cell_some hxw hc1
      have hc2 := Ext.cell_some hxw hc2
      have hu1 := Ext.cell_some hxw hu1
      clear hj
      go_simp
      try go_bits
      first | rfl | (rw [if_pos (by omega), if_pos (by omega)]; go_simp; rfl) | (rw [if_pos (by omega)]; go_simp; rfl) | skip
    · have hc1 := Ext.cell_some hxw hc1
      have hc2 := Ext.cell_some hxw hc2
      have hu1 := Ext.cell_some hxw hu1
      clear hj
      go_simp
      try go_bits
      first | rfl | (rw [if_pos (by omega), if_pos (by omega)]; go_simp; rfl) | (rw [if_pos (by omega)]; go_simp; rfl) | skip
    · have hc1 := Ext.cell_some hxw hc1
      have hc2 := Ext.cell_some hxw hc2
      have hu1 := Ext.cell_some hxw hu1
      clear hj
      go_simp
      try go_bits
      first | rfl | (rw [if_pos (by omega), if_pos (by omega)]; go_simp; rfl) | (rw [if_pos (by omega)]; go_simp; rfl) | skip
    · have hc1 := Ext.cell_some hxw hc1
      have hc2 := Ext.cell_some hxw hc2
      have hu1 := Ext.cell_some hxw hu1
      clear hj
      go_simp
      try go_bits
      first | rfl | (rw [if_pos (by omega), if_pos (by omega)]; go_simp; rfl) | (rw [if_pos (by omega)]; go_simp; rfl) | skip
    · have hc1 := Ext.cell_some hxw hc1
      have hc2 := Ext.cell_some hxw hc2
      have hu1 := Ext.cell_some hxw hu1
      clear hj
      go_simp
      try go_bits
      first | rfl | (rw [if_pos (by omega), if_pos (by omega)]; go_simp; rfl) | (rw [if_pos (by omega)]; go_simp; rfl) | skip
    · have hc1 := Ext.cell_some hxw hc1
      have hc2 := Ext.cell_some hxw hc2
      have hu1 := Ext.cell_some hxw hu1
      clear hj
      go_simp
      try go_bits
      first | rfl | (rw [if_pos (by omega), if_pos (by omega)]; go_simp; rfl) | (rw [if_pos (by omega)]; go_simp; rfl) | skip
    · have hc1 := Ext.cell_some hxw hc1
      have hc2 := Ext.cell_some hxw hc2
      have hu1 := Ext.cell_some hxw hu1
      clear hj
      go_simp
      try go_bits
      first | rfl | (rw [if_pos (by omega), if_pos (by omega)]; go_simp; rfl) | (rw [if_pos (by omega)]; go_simp; rfl) | skip
    · have hc1 := Ext.cell_some hxw hc1
      have hc2 := Ext.cell_some hxw hc2
      have hu1 := Ext.cell_some hxw hu1
      clear hj
      go_simp
      try go_bits
      first | rfl | (rw [if_pos (by omega), if_pos (by omega)]; go_simp; rfl) | (rw [if_pos (by omega)]; go_simp; rfl) | skip
    · have hc1 := Ext.cell_some hxw hc1
      have hc2 := Ext.cell_some hxw hc2
      have hu1 := Ext.cell_some hxw hu1
      clear hj
      go_simp
      try go_bits
      first | rfl | (rw [if_pos (by omega), if_pos (by omega)]; go_simp; rfl) | (rw [if_pos (by omega)]; go_simp; rfl) | skip
    · have hc1 := Ext.cell_some hxw hc1
      have hc2 := Ext.cell_some hxw hc2
      have hu1 := Ext.cell_some hxw hu1
      clear hj
      go_simp
      try go_bits
      (try rw [e3])
      (try simp)
      (try omega)
    · have hc1 := Ext.cell_some hxw hc1
      have hc2 := Ext.cell_some hxw hc2
      have hu1 := Ext.cell_some hxw hu1
      clear hj
      go_simp
      try go_bits
      first | rfl | (rw [if_pos (by omega), if_pos (by omega)]; go_simp; rfl) | (rw [if_pos (by omega)]; go_simp; rfl) | skip
    · have hc1 := Ext.cell_some hxw hc1
      have hc2 := Ext.cell_some hxw hc2
      have hu1 := Ext.cell_some hxw hu1
      clear hj
      go_simp
      try go_bits
      first | rfl | (rw [if_pos (by omega), if_pos (by omega)]; go_simp; rfl) | (rw [if_pos (by omega)]; go_simp; rfl) | skip
    · have hc1 := Ext.cell_some hxw hc1
      have hc2 := Ext.cell_some hxw hc2
      have hu1 := Ext.cell_some hxw hu1
      clear hj
      go_simp
      try go_bits
      first | rfl | (rw [if_pos (by omega), if_pos (by omega)]; go_simp; rfl) | (rw [if_pos (by omega)]; go_simp; rfl) | skip
    · have hc1 := Ext.cell_some hxw hc1
      have hc2 := Ext.cell_some hxw hc2
      have hu1 := Ext.cell_some hxw hu1
      clear hj
      go_simp
      try go_bits
      first | rfl | (rw [if_pos (by omega), if_pos (by omega)]; go_simp; rfl) | (rw [if_pos (by omega)]; go_simp; rfl) | skip
    · have hc1 := Ext.cell_some hxw hc1
      have hc2 := Ext.cell_some hxw hc2
      have hu1 := Ext.cell_some hxw hu1
      clear hj
      go_simp
      try go_bits
      first | rfl | (rw [if_pos (by omega), if_pos (by omega)]; go_simp; rfl) | (rw [if_pos (by omega)]; go_simp; rfl) | skip
    · have hc1 := Ext.cell_some hxw hc1
      have hc2 := Ext.cell_some hxw hc2
      have hu1 := Ext.cell_some hxw hu1
      clear hj
      go_simp
      try go_bits
      (try rw [hk])
      (try trivial)
      (try omega)
    · have hc1 := Ext.cell_some hxw hc1
      have hc2 := Ext.cell_some hxw hc2
      have hu1 := Ext.cell_some hxw hu1
      clear hj
      go_simp
      try go_bits
      first | rfl | (rw [if_pos (by omega), if_pos (by omega)]; go_simp; rfl) | (rw [if_pos (by omega)]; go_simp; rfl) | skip
    · have hc1 := Ext.cell_some hxw hc1
      have hc2 := Ext.cell_some hxw hc2
      have hu1 := Ext.cell_some hxw hu1
      clear hj
      go_simp
      try go_bits
      first | rfl | (rw [if_pos (by omega), if_pos (by omega)]; go_simp; rfl) | (rw [if_pos (by omega)]; go_simp; rfl) | skip
    · have hc1 := Ext.cell_some hxw hc1
      have hc2 := Ext.cell_some hxw hc2
      have hu1 := Ext.cell_some hxw hu1
      clear hj
      go_simp
      try go_bits
      first | rfl | (rw [if_pos (by omega), if_pos (by omega)]; go_simp; rfl) | (rw [if_pos (by omega)]; go_simp; rfl) | skip
    · have hc1 := Ext.cell_some hxw hc1
      have hc2 := Ext.cell_some hxw hc2
      have hu1 := Ext.cell_some hxw hu1
      clear hj
      go_simp
      try go_bits
      exact HF.out.2.2.1 _ (hT.ext hxw)
    · have hc1 := Ext.cell_some hxw hc1
      have hc2 := Ext.cell_some hxw hc2
      have hu1 := Ext.cell_some hxw hu1
      clear hj
      go_simp
      try go_bits
      first | rfl | (rw [if_pos (by omega), if_pos (by omega)]; go_simp; rfl) | (rw [if_pos (by omega)]; go_simp; rfl) | skip
    · have hc1 := Ext.cell_some hxw hc1
      have hc2 := Ext.cell_some hxw hc2
      have hu1 := Ext.cell_some hxw hu1
      clear hj
      go_simp
      try go_bits
      (try rw [e4])
      (try simp)
      (try omega)
    · have hc1 := Ext.cell_some hxw hc1
      have hc2 := Ext.cell_some hxw hc2
      have hu1 := Ext.cell_some hxw hu1
      clear hj
      go_simp
      try go_bits
      first | rfl | (rw [if_pos (by omega), if_pos (by omega)]; go_simp; rfl) | (rw [if_pos (by omega)]; go_simp; rfl) | skip
    · have hc1 := Ext.cell_some hxw hc1
      have hc2 := Ext.cell_some hxw hc2
      have hu1 := Ext.cell_some hxw hu1
      clear hj
      go_simp
      try go_bits
      first | rfl | (rw [if_pos (by omega), if_pos (by omega)]; go_simp; rfl) | (rw [if_pos (by omega)]; go_simp; rfl) | skip
    · have hc1 := Ext.cell_some hxw hc1
      have hc2 := Ext.cell_some hxw hc2
      have hu1 := Ext.cell_some hxw hu1
      clear hj
      go_simp
      try go_bits
      first | rfl | (rw [if_pos (by omega), if_pos (by omega)]; go_simp; rfl) | (rw [if_pos (by omega)]; go_simp; rfl) | skip
    · have hc1 := Ext.cell_some hxw hc1
      have hc2 := Ext.cell_some hxw hc2
      have hu1 := Ext.cell_some hxw hu1
      clear hj
      go_simp
      try go_bits
      exact turn_J _ T _ (hT.ext hxw) HF.out.2.2.2.2.2.1
    · have hc1 := Ext.cell_some hxw hc1
      have hc2 := Ext.cell_some hxw hc2
      have hu1 := Ext.cell_some hxw hu1
      have k49 : RowsJ (turnM T) (vs 49) w' := hj 49 (by kernel_rfl)
      clear hj
      go_simp
      try go_bits
      exact char_J _ (turnM T) (cpV T) _ k49 HF.out.2.2.2.2.1
    · have hc1 := Ext.cell_some hxw hc1
      have hc2 := Ext.cell_some hxw hc2
      have hu1 := Ext.cell_some hxw hu1
      clear hj
      go_simp
      try go_bits
      first | rfl | (rw [if_pos (by omega), if_pos (by omega)]; go_simp; rfl) | (rw [if_pos (by omega)]; go_simp; rfl) | skip
    · have hc1 := Ext.cell_some hxw hc1
      have hc2 := Ext.cell_some hxw hc2
      have hu1 := Ext.cell_some hxw hu1
      have k50 : NumsJ (cpV T) (vs 50) w' := hj 50 (by kernel_rfl)
      clear hj
      go_simp
      try go_bits
      exact laws_sameInts_same _ _ (cpV T) _ k50 (hC.ext hxw)
    · have hc1 := Ext.cell_some hxw hc1
      have hc2 := Ext.cell_some hxw hc2
      have hu1 := Ext.cell_some hxw hu1
      clear hj
      go_simp
      try go_bits
      first | rfl | (rw [if_pos (by omega), if_pos (by omega)]; go_simp; rfl) | (rw [if_pos (by omega)]; go_simp; rfl) | skip
    · have hc1 := Ext.cell_some hxw hc1
      have hc2 := Ext.cell_some hxw hc2
      have hu1 := Ext.cell_some hxw hu1
      clear hj
      go_simp
      try go_bits
      first | rfl | (rw [if_pos (by omega), if_pos (by omega)]; go_simp; rfl) | (rw [if_pos (by omega)]; go_simp; rfl) | skip
    · have hc1 := Ext.cell_some hxw hc1
      have hc2 := Ext.cell_some hxw hc2
      have hu1 := Ext.cell_some hxw hu1
      clear hj
      go_simp
      try go_bits
      first | rfl | (rw [if_pos (by omega), if_pos (by omega)]; go_simp; rfl) | (rw [if_pos (by omega)]; go_simp; rfl) | skip
    · have hc1 := Ext.cell_some hxw hc1
      have hc2 := Ext.cell_some hxw hc2
      have hu1 := Ext.cell_some hxw hu1
      clear hj
      go_simp
      try go_bits
      exact HF.out.2.2.2.1 _ (hT.ext hxw)
    · have hc1 := Ext.cell_some hxw hc1
      have hc2 := Ext.cell_some hxw hc2
      have hu1 := Ext.cell_some hxw hu1
      clear hj
      go_simp
      try go_bits
      first | rfl | (rw [if_pos (by omega), if_pos (by omega)]; go_simp; rfl) | (rw [if_pos (by omega)]; go_simp; rfl) | skip
    · have hc1 := Ext.cell_some hxw hc1
      have hc2 := Ext.cell_some hxw hc2
      have hu1 := Ext.cell_some hxw hu1
      clear hj
      go_simp
      try go_bits
      first | rfl | (rw [if_pos (by omega), if_pos (by omega)]; go_simp; rfl) | (rw [if_pos (by omega)]; go_simp; rfl) | skip
    · have hc1 := Ext.cell_some hxw hc1
      have hc2 := Ext.cell_some hxw hc2
      have hu1 := Ext.cell_some hxw hu1
      clear hj
      go_simp
      try go_bits
      first | rfl | (rw [if_pos (by omega), if_pos (by omega)]; go_simp; rfl) | (rw [if_pos (by omega)]; go_simp; rfl) | skip
    · have hc1 := Ext.cell_some hxw hc1
      have hc2 := Ext.cell_some hxw hc2
      have hu1 := Ext.cell_some hxw hu1
      clear hj
      go_simp
      try go_bits
      first | rfl | (rw [if_pos (by omega), if_pos (by omega)]; go_simp; rfl) | (rw [if_pos (by omega)]; go_simp; rfl) | skip
    · have hc1 := Ext.cell_some hxw hc1
      have hc2 := Ext.cell_some hxw hc2
      have hu1 := Ext.cell_some hxw hu1
      clear hj
      go_simp
      try go_bits
      first | rfl | (rw [if_pos (by omega), if_pos (by omega)]; go_simp; rfl) | (rw [if_pos (by omega)]; go_simp; rfl) | skip
  case' hy_1_p =>
    intro vs wf hy hk
    have k49 : (RowsJ (turnM T)) (vs 49) wf := hk 49 _ rfl
    have k50 : (NumsJ (cpV T)) (vs 50) wf := hk 50 _ rfl
    clear hk
    replace hc1 := Ext.cell_some hy hc1
    replace hc2 := Ext.cell_some hy hc2
    replace hu1 := Ext.cell_some hy hu1
    replace hx := Ext.trans hx hy
    replace hT := hT.ext hy
    replace hC := hC.ext hy
    go_simp
  go_wp2
  go_ret
  exact ⟨rfl, hx⟩

/-- The door's own heap meets the condition. -/
theorem fnPolys_door (os : Os) (args : Array Value) : laidMetH Tryd.prog Rows.fnPolysRow.laid ((World.doorLaid Tryd.prog 400 os).forCall (fun _ _ => 0) ⟨#[], args, []⟩).memory :=
  laidMetH_of_parts3 (fuel := 8) (laidMet_of_run' 8 (by kernel_rfl) (by kernel_rfl)) (by kernel_rfl) (by kernel_rfl)
set_option maxRecDepth 100000 in
set_option linter.unusedVariables false in
theorem fnPolys_lifted (os : Os) (started : os.Started) (H : Type) (enc : TypeId × Value → H) :
    ReturnsInHanded {} Tryd.checked os 3 .any (fun w args => (Rows.fnPolysSpec.pre enc Tryd.prog Tryd.f3 [] false w args ∧ laidMetH Tryd.prog Rows.fnPolysRow.laid w) ∧ sizedMet enc Tryd.prog Tryd.f3 (OpenSpec.ofChange Rows.fnPolysSpec) false w args) (Rows.fnPolysSpec.post enc Tryd.prog Tryd.f3 false true false false) := by
  refine returnsInHanded_of_change_and (C := Tryd.checked) (X := fun w _ => laidMetH Tryd.prog Rows.fnPolysRow.laid w) (fun _ _ _ hh h => h.of_heap hh) own started (by kernel_rfl) Tryd.func3
    (ChangeSpec.witness_shaped (enc := enc) (C := Tryd.checked) (os := os) (X := fun w _ => laidMetH Tryd.prog Rows.fnPolysRow.laid w) false (World.doorLaid Tryd.prog 400 os) #[.slice none 0 0] 8 rfl (World.shaped_of_RefB (by kernel_rfl) (by kernel_rfl)) (by kernel_rfl) (by kernel_rfl) (by kernel_rfl) (fnPolys_door os _)) ?_
  intro W base args ds gs before hval0 hW hcnd _ hL _
  have hval : ∀ (j : Nat) t v, Tryd.f3.params[j]? = some t → args[j]? = some v → Value.okWide Tryd.prog W .any base t v := hval0
  have hW' := hW
  obtain ⟨p, q, hA0, hV, rfl, hfz, hnd⟩ := hW
  have hA : DataW.TrodAll enc Tryd.prog W 0 (fun _ => true) true Tryd.f3.params.toList args.toList ds p := hA0
  rw [Tryd.params3] at hA hval
  obtain ⟨v0, vs0, d0, ds0, p0, q0, hargs, rfl, rfl, h0, r0⟩ := trodAll_cons hA
  obtain ⟨rfl, rfl, rfl⟩ := trodAll_nil r0
  obtain rfl : args = #[v0] := by cases args; simp_all
  obtain ⟨rfl, rfl⟩ := trodVars_none hV
  have k0 := h0
  have lt0 : ∀ x ∈ p0, x.block < W.heap.size := by obtain ⟨m, hm⟩ := k0; exact DataW.trod_lt m _ _ _ hm
  obtain ⟨xs0, rd0⟩ := bytes_of_trod Tryd.underlying22 Tryd.underlying5 (by kernel_rfl) (hval 0 22 v0 rfl rfl) h0
  clear hA0 hval0
  refine (fnPolys_any v0 xs0 W rd0 (tabC_of 2 hL (by rfl) (by rfl))).mono fun e W' ⟨he, bel⟩ => ?_
  subst he
  exact ⟨_, rfl, _, _, _, [], _, [], hW', trodAll_mk1 (shut_bool Tryd.underlying4 _), (trodAll_cons_mk (Below.trod laidOut (by kernel_rfl) (of_decide_eq_true (by kernel_rfl)) k0 bel lt0) trodAll_mk0), rfl, Below.frame bel _, fun h => by cases h⟩

theorem fnPolys_holds : Rows.FnPolysSaid :=
  OpenClaim.holds_of_wide 3 Tryd.f3 rfl rfl rfl rfl rfl rfl rfl ⟨rfl, rfl, rfl, rfl, rfl⟩ rfl rfl rfl rfl rfl (by kernel_rfl) Tryd.func3 (by kernel_rfl)
    (of_decide_eq_true (by kernel_rfl)) (by unfold Func.isWrapper; first | (rw [if_pos (by decide +kernel)]; kernel_rfl) | (rw [if_neg (by decide +kernel)]; exact ⟨rfl, rfl⟩))
    (fun os started H enc _ => fnPolys_lifted os started H enc)

theorem fnPolys_card : Rows.FnPolysCardSaid :=
  Claim7.holds_tied_plain_at .later [] [.data, .data, .data] true (true, "79cb490849a0fec8b990601b242c61cbb848be3668d0a6da74bef4dd9cb5dcf3") false
    fnPolys_holds (fun _ h => by cases h) (by kernel_rfl) (fun _ h => by cases h) fnPolys_row_tie rfl ⟨rfl, rfl⟩ (by kernel_rfl) rfl
    (fun f fn hf hfn => by
      obtain rfl : f = 3 := Option.some.inj ((show Tryd.prog.funcNamed "loop.example/g03103/laws.FnPolys" = some 3 by kernel_rfl).symm.trans hf) |>.symm
      obtain rfl : fn = Tryd.f3 := (Option.some.inj (Tryd.func3.symm.trans hfn)).symm
      exact ⟨by kernel_rfl, fun j t ht => by
        rw [Tryd.params3] at ht
        have hm : t ∈ [22] := by simpa using Array.mem_of_getElem? ht
        have hall : ([22].all fun u => !Tryd.prog.wantsStandIn u) = true := by kernel_rfl
        exact (show Tryd.prog.wantsStandIn t = false by simpa using List.all_eq_true.1 hall t hm)⟩)
    (by kernel_rfl)
end Go.Proofs.YtdngkfedkgiioaaDoor

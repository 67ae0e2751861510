/- Contract: the graph of a shift, by the reference. -/
import Derived.Test.YtfiembmfkokllaaGreatShGr
namespace Go.Proofs.YtfiembmfkokllaaGreat
open Go.RowKit Go.Cm Go.Mx

set_option maxRecDepth 100000 in
set_option maxHeartbeats 4000000 in
theorem spec_GraphOf_any (L : Int) (v : Value) (F : List (List UInt8)) (w : World) (h : ReadsW w v F) (hF : ∀ f ∈ F, f.length ≤ maxLen) :
    Calls Tryz.prog 8 #[.agg #[.int .i64 L, v]] w fun e w' => ∃ u, e = .returned (.tuple #[u, .bool (graphO L F).isSome]) ∧ ReadsRows w' u ((graphO L F).getD []) ∧ Ext w w' := by
  obtain ⟨pa, ca, rfl⟩ := h.slice
  have hx := Ext.alloc w (.cells #[.int .i64 L, .slice pa F.length ca] 26)
  have bo : Blk (w.alloc (.cells #[.int .i64 L, .slice pa F.length ca] 26)) w.heap.size #[.int .i64 L, .slice pa F.length ca] := by (repeat (first | (refine Blk.mk' ?_; (simp; done)) | apply Blk.old))
  have HS := Lib.hid (And.intro h hF)
  have hst := spec_StatesOf_any L (.slice pa F.length ca) F _ (h.ext hx) hF
  have hno : (langOf L F 2).length = 0 → graphO L F = none := fun h => by unfold graphO; rw [if_pos h]
  have hyes : ¬ (langOf L F 2).length = 0 → graphO L F = some (graphT F (langOf L F 2)) := fun h => by unfold graphO; rw [if_neg h]
  have hfacts := fun h => lang2_facts (L := L) (F := F) h
  obtain ⟨st, hstd⟩ : ∃ st, st = langOf L F 2 := ⟨_, rfl⟩
  rw [← hstd] at hst hno hyes hfacts
  have HA := Lib.hid (And.intro hst (And.intro hno (And.intro hyes hfacts)))
  clear h hF hst hno hyes hfacts hstd
  go_enter Tryz.func8, Tryz.ntmps8
  go_wp2_with fail
  with_reducible refine HA.out.1.mono ?_
  rintro e w1 ⟨u, rfl, hown, hx1⟩
  have bo1 := bo.ext hx1
  replace hx := hx.trans hx1
  have hrd := Own.readsW hown
  clear bo hx1 hown
  obtain ⟨pz, cz, rfl⟩ := hrd.slice
  obtain ⟨-, hlz, hcz⟩ := hrd.len
  have hno := HA.out.2.1
  have hyes := HA.out.2.2.1
  have hfacts := HA.out.2.2.2
  have hgl : (graphT F st).length = st.length := tabF_length _ _ _
  obtain ⟨n, hn⟩ : ∃ n, n = st.length := ⟨_, rfl⟩
  have hgt : graphT F st = tabF n n (gF F st) := by rw [hn]; rfl
  rw [← hn] at hrd hlz hno hyes hfacts ⊢
  by_cases hn0 : n = 0
  · have HN := Lib.hid (hno hn0)
    subst hn0
    clear hno hyes hfacts hrd hn hgl hgt
    go_wp2
    go_ret2
    exact ⟨_, by rw [HN.out]; rfl, by rw [HN.out]; exact spec_nil_rows _, Ext.trans hx (Ext.alloc _ _)⟩
  obtain ⟨hn9, htwo, hFl⟩ := hfacts hn0
  have hn0b : ((n : Int) == 0) = false := by simp; omega
  have hz := spec_l4Zero_any n n w1 (by omega) (by omega)
  have hz0 : tabF n n (fun _ _ => 0) = tabF n n (maskF (doneB 0 0) (gF F st)) := (fill_zero (fun _ _ h _ => by omega) (fun _ h => by omega)).symm
  rw [hz0] at hz
  have hgy := fun i j h => gF_yes (F := F) (st := st) (i := i) (j := j) h
  have hgn := fun i j h => gF_no (F := F) (st := st) (i := i) (j := j) h
  have hyes' := hyes hn0
  rw [hgt] at hyes'
  obtain ⟨T, hT⟩ : ∃ T, T = gF F st := ⟨_, rfl⟩
  rw [← hT] at hz hyes' hgy hgn
  have HM := Lib.hid (And.intro hrd (And.intro hn (And.intro hyes' (And.intro htwo (And.intro hz (And.intro hgy hgn))))))
  have HFl := Lib.hid hFl
  clear hFl
  clear hno hyes hyes' htwo hrd hn hz hz0 hgy hgn hT hfacts hgl hgt hn0
  have c0 := bo1.cell 0 (.int .i64 L) rfl
  have c1 := bo1.cell 1 (.slice pa F.length ca) rfl
  go_wp2_with (go_at_call 37; with_reducible refine HM.out.2.2.2.2.1.mono ?_; rintro e w2 ⟨g, cap, gs, cs, rfl, ht, hx2⟩)
  go_loopw [6] (fun q wr => ∃ k : Nat, k ≤ n ∧ q = .int .i64 k ∧ MTab wr w1.heap.size 52 3 g n cap gs cs (tabF n n (maskF (doneB k 0) T)) ∧ Ext w1 wr) (fun q _ => n - (intOf q).toNat)
  case atStart => exact ⟨0, by omega, rfl, ht, hx2⟩
  case round =>
    clear ht hx2 c0 c1
    obtain ⟨i, hi, rfl, ht, hx1⟩ := hrel
    by_cases hlti : i < n
    · have hin : i < st.length := by rw [← HM.out.2.1]; exact hlti
      obtain ⟨b, o, rfl, hcA0⟩ := HM.out.1.at i hin
      have hul : (st.getD i []).length = 2 := HM.out.2.2.2.1 _ (by rw [List.getD_eq_getElem?_getD, List.getElem?_eq_getElem hin]; exact List.getElem_mem hin)
      obtain ⟨u, hu⟩ : ∃ u, u = st.getD i [] := ⟨_, rfl⟩
      rw [← hu] at hcA0 hul
      have hsu : (mkS u).size = u.length := mkS_size u
      have hu1 : 1 < (mkS u).size := by omega
      have hu2 : u.length ≤ 2 := by omega
      have HU := Lib.hid (And.intro hul (And.intro hu hcA0))
      have hcA := hx1.cell_some hcA0
      have HT := Lib.hid ht
      clear hul hu hcA0 ht hin hcA
      go_wp2
      go_loopw [7] (fun q wr => ∃ k : Nat, k ≤ n ∧ q = .int .i64 k ∧ MTab wr w1.heap.size 52 3 g n cap gs cs (tabF n n (maskF (doneB i k) T)) ∧ Ext w1 wr) (fun q _ => n - (intOf q).toNat)
      case atStart => exact ⟨0, by omega, rfl, HT.out, hx1⟩
      case round =>
        clear hx1 HT
        obtain ⟨j, hj, rfl, ht, hx1⟩ := hrel
        by_cases hltj : j < n
        · have hjn : j < st.length := by rw [← HM.out.2.1]; exact hltj
          obtain ⟨_, _, e, hcB⟩ := (HM.out.1.ext hx1).at j hjn
          cases e
          have hxl : (st.getD j []).length = 2 := HM.out.2.2.2.1 _ (by rw [List.getD_eq_getElem?_getD, List.getElem?_eq_getElem hjn]; exact List.getElem_mem hjn)
          obtain ⟨x, hx'⟩ : ∃ x, x = st.getD j [] := ⟨_, rfl⟩
          rw [← hx'] at hcB hxl
          have hsx : (mkS x).size = x.length := mkS_size x
          have hx1' : 1 < (mkS x).size := by omega
          have hx0' : 0 < (mkS x).size := by omega
          have hx2 : x.length ≤ 2 := by omega
          have g1 := mkS_get u 1 hu1
          have g2 := mkS_get x 0 hx0'
          obtain ⟨c, hc⟩ : ∃ c, c = (u.getD 1 0 == x.getD 0 0) := ⟨_, rfl⟩
          have hcn : ((((mkS u)[1]'hu1).toNat : Int) == (((mkS x)[0]'hx0').toNat : Int)) = c := by
            rw [hc, g1, g2, let_eq]
          obtain ⟨d, hd⟩ : ∃ d, d = x.drop 1 := ⟨_, rfl⟩
          have hsl1 := mkS_tail x 1
          rw [hsx, ← hd] at hsl1
          have hcat := mkS_append u d
          have hfit : ¬ 9223372036854775807 < u.length + (mkS d).size := by rw [mkS_size, hd, List.length_drop]; omega
          obtain ⟨y, hy⟩ : ∃ y, y = u ++ d := ⟨_, rfl⟩
          have hyl : y.length ≤ 1048576 := by rw [hy, List.length_append, hd, List.length_drop]; omega
          obtain ⟨av, hav⟩ : ∃ av, av = avoidL F y := ⟨_, rfl⟩
          have hca := fun w h => spec_l3Avoids_any (.slice pa F.length ca) F y w h HFl.out hyl
          rw [← hav] at hca
          rw [← hy] at hcat
          have hadj : adjL F (st.getD i []) (st.getD j []) = (c && av) := by
            unfold adjL
            rw [← HU.out.2.1, ← hx', ← hc, hav, hy, hd]
          have hkR : i < (tabF n n (maskF (doneB i j) T)).length := by rw [tabF_length]; exact hlti
          have hsp := ht.spot i hkR
          have hcp := (ht.row i hkR).caps.1
          rw [tabF_row_length hlti] at hsp hcp
          have HX := Lib.hid (And.intro hca (And.intro hadj (And.intro ht hkR)))
          have i1 : (1 : Int) < (u.length : Int) := by omega
          have i2 : 0 < x.length := by omega
          have i3 : (1 : Int) ≤ (x.length : Int) := by omega
          have hxw := hx.trans hx1
          have c0 := (bo1.ext hx1).cell 0 (.int .i64 L) rfl
          have c1 := (bo1.ext hx1).cell 1 (.slice pa F.length ca) rfl
          have HW := Lib.hid (HS.out.1.ext hxw)
          have hcA := hx1.cell_some HU.out.2.2
          clear hca hadj hav hy hd hc hxl hx' g1 g2 hyl hkR ht hxw hjn
          cases c
          · have HF := Lib.hid (HM.out.2.2.2.2.2.2 i j (by rw [HX.out.2.1]; rfl))
            go_wp2
            refine wp_region_inv (by kernel_rfl) (.known ?hx8_6_v0 :: .known ?hx8_6_v1 :: .known ?hx8_6_v2 :: .known ?hx8_6_v3 :: .known ?hx8_6_v4 :: .known ?hx8_6_v5 :: .known ?hx8_6_v6 :: .known ?hx8_6_v7 :: .known ?hx8_6_v8 :: .known ?hx8_6_v9 :: .known ?hx8_6_v10 :: .known ?hx8_6_v11 :: .known ?hx8_6_v12 :: .known ?hx8_6_v13 :: .known ?hx8_6_v14 :: .known ?hx8_6_v15 :: .known ?hx8_6_v16 :: .known ?hx8_6_v17 :: .known ?hx8_6_v18 :: .known ?hx8_6_v19 :: .known ?hx8_6_v20 :: .known ?hx8_6_v21 :: .known ?hx8_6_v22 :: .known ?hx8_6_v23 :: .known ?hx8_6_v24 :: .known ?hx8_6_v25 :: []) rfl (by kernel_rfl) ?hx8_6_s ?hx8_6_p
            case hx8_6_s =>
              intro vs
              refine ⟨fun w' hxw hj => ?_, fun w' hxw hj => ?_, fun w' hxw hj => ?_, fun w' hxw hj => ?_, fun w' hxw hj => ?_, fun w' hxw hj => ?_, fun w' hxw hj => ?_, fun w' hxw hj => ?_, fun w' hxw hj => ?_, fun w' hxw hj => ?_, fun w' hxw hj => ?_, fun w' hxw hj => ?_, fun w' hxw hj => ?_, fun w' hxw hj => ?_, fun w' hxw hj => ?_, fun w' hxw hj => ?_, fun w' hxw hj => ?_, fun w' hxw hj => ?_, fun w' hxw hj => ?_, fun w' hxw hj => ?_, fun w' hxw hj => ?_, fun w' hxw hj => ?_, fun w' hxw hj => ?_, fun w' hxw hj => ?_, fun w' hxw hj => ?_, fun w' hxw hj => ?_, trivial⟩
              · have c0 := Ext.cell_some hxw c0
                have c1 := Ext.cell_some hxw c1
                have hcA := Ext.cell_some hxw hcA
                have hcB := Ext.cell_some hxw hcB
                have hsp := Ext.cell_some hxw hsp
                clear hj
                go_simp
                try go_bits
                first | rfl | (rw [if_pos (by omega), if_pos (by omega)]; go_simp; rfl) | (rw [if_pos (by omega)]; go_simp; rfl) | skip
              · have c0 := Ext.cell_some hxw c0
                have c1 := Ext.cell_some hxw c1
                have hcA := Ext.cell_some hxw hcA
                have hcB := Ext.cell_some hxw hcB
                have hsp := Ext.cell_some hxw hsp
                clear hj
                go_simp
                try go_bits
                first | rfl | (rw [if_pos (by omega), if_pos (by omega)]; go_simp; rfl) | (rw [if_pos (by omega)]; go_simp; rfl) | skip
              · have c0 := Ext.cell_some hxw c0
                have c1 := Ext.cell_some hxw c1
                have hcA := Ext.cell_some hxw hcA
                have hcB := Ext.cell_some hxw hcB
                have hsp := Ext.cell_some hxw hsp
                clear hj
                go_simp
                try go_bits
                first | rfl | (rw [if_pos (by omega), if_pos (by omega)]; go_simp; rfl) | (rw [if_pos (by omega)]; go_simp; rfl) | skip
              · have c0 := Ext.cell_some hxw c0
                have c1 := Ext.cell_some hxw c1
                have hcA := Ext.cell_some hxw hcA
                have hcB := Ext.cell_some hxw hcB
                have hsp := Ext.cell_some hxw hsp
                clear hj
                go_simp
                try go_bits
                first | rfl | (rw [if_pos (by omega), if_pos (by omega)]; go_simp; rfl) | (rw [if_pos (by omega)]; go_simp; rfl) | skip
              · have c0 := Ext.cell_some hxw c0
                have c1 := Ext.cell_some hxw c1
                have hcA := Ext.cell_some hxw hcA
                have hcB := Ext.cell_some hxw hcB
                have hsp := Ext.cell_some hxw hsp
                clear hj
                go_simp
                try go_bits
                first | rfl | (rw [if_pos (by omega), if_pos (by omega)]; go_simp; rfl) | (rw [if_pos (by omega)]; go_simp; rfl) | skip
              · have c0 := Ext.cell_some hxw c0
                have c1 := Ext.cell_some hxw c1
                have hcA := Ext.cell_some hxw hcA
                have hcB := Ext.cell_some hxw hcB
                have hsp := Ext.cell_some hxw hsp
                clear hj
                go_simp
                try go_bits
                first | rfl | (rw [if_pos (by omega), if_pos (by omega)]; go_simp; rfl) | (rw [if_pos (by omega)]; go_simp; rfl) | skip
              · have c0 := Ext.cell_some hxw c0
                have c1 := Ext.cell_some hxw c1
                have hcA := Ext.cell_some hxw hcA
                have hcB := Ext.cell_some hxw hcB
                have hsp := Ext.cell_some hxw hsp
                clear hj
                go_simp
                try go_bits
                first | rfl | (rw [if_pos (by omega), if_pos (by omega)]; go_simp; rfl) | (rw [if_pos (by omega)]; go_simp; rfl) | skip
              · have c0 := Ext.cell_some hxw c0
                have c1 := Ext.cell_some hxw c1
                have hcA := Ext.cell_some hxw hcA
                have hcB := Ext.cell_some hxw hcB
                have hsp := Ext.cell_some hxw hsp
                clear hj
                go_simp
                try go_bits
                first | rfl | (rw [if_pos (by omega), if_pos (by omega)]; go_simp; rfl) | (rw [if_pos (by omega)]; go_simp; rfl) | skip
              · have c0 := Ext.cell_some hxw c0
                have c1 := Ext.cell_some hxw c1
                have hcA := Ext.cell_some hxw hcA
                have hcB := Ext.cell_some hxw hcB
                have hsp := Ext.cell_some hxw hsp
                clear hj
                go_simp
                try go_bits
                first | rfl | (rw [if_pos (by omega), if_pos (by omega)]; go_simp; rfl) | (rw [if_pos (by omega)]; go_simp; rfl) | skip
              · have c0 := Ext.cell_some hxw c0
                have c1 := Ext.cell_some hxw c1
                have hcA := Ext.cell_some hxw hcA
                have hcB := Ext.cell_some hxw hcB
                have hsp := Ext.cell_some hxw hsp
                clear hj
                go_simp
                try go_bits
                first | rfl | (rw [if_pos (by omega), if_pos (by omega)]; go_simp; rfl) | (rw [if_pos (by omega)]; go_simp; rfl) | skip
              · have c0 := Ext.cell_some hxw c0
                have c1 := Ext.cell_some hxw c1
                have hcA := Ext.cell_some hxw hcA
                have hcB := Ext.cell_some hxw hcB
                have hsp := Ext.cell_some hxw hsp
                clear hj
                go_simp
                try go_bits
                first | rfl | (rw [if_pos (by omega), if_pos (by omega)]; go_simp; rfl) | (rw [if_pos (by omega)]; go_simp; rfl) | skip
              · have c0 := Ext.cell_some hxw c0
                have c1 := Ext.cell_some hxw c1
                have hcA := Ext.cell_some hxw hcA
                have hcB := Ext.cell_some hxw hcB
                have hsp := Ext.cell_some hxw hsp
                clear hj
                go_simp
                try go_bits
                first | rfl | (rw [if_pos (by omega), if_pos (by omega)]; go_simp; rfl) | (rw [if_pos (by omega)]; go_simp; rfl) | skip
              · have c0 := Ext.cell_some hxw c0
                have c1 := Ext.cell_some hxw c1
                have hcA := Ext.cell_some hxw hcA
                have hcB := Ext.cell_some hxw hcB
                have hsp := Ext.cell_some hxw hsp
                clear hj
                go_simp
                try go_bits
                first | rfl | (rw [if_pos (by omega), if_pos (by omega)]; go_simp; rfl) | (rw [if_pos (by omega)]; go_simp; rfl) | skip
              · have c0 := Ext.cell_some hxw c0
                have c1 := Ext.cell_some hxw c1
                have hcA := Ext.cell_some hxw hcA
                have hcB := Ext.cell_some hxw hcB
                have hsp := Ext.cell_some hxw hsp
                clear hj
                go_simp
                try go_bits
                first | rfl | (rw [if_pos (by omega), if_pos (by omega)]; go_simp; rfl) | (rw [if_pos (by omega)]; go_simp; rfl) | skip
              · have c0 := Ext.cell_some hxw c0
                have c1 := Ext.cell_some hxw c1
                have hcA := Ext.cell_some hxw hcA
                have hcB := Ext.cell_some hxw hcB
                have hsp := Ext.cell_some hxw hsp
                clear hj
                go_simp
                try go_bits
                first | rfl | (rw [if_pos (by omega), if_pos (by omega)]; go_simp; rfl) | (rw [if_pos (by omega)]; go_simp; rfl) | skip
              · have c0 := Ext.cell_some hxw c0
                have c1 := Ext.cell_some hxw c1
                have hcA := Ext.cell_some hxw hcA
                have hcB := Ext.cell_some hxw hcB
                have hsp := Ext.cell_some hxw hsp
                clear hj
                go_simp
                try go_bits
                first | rfl | (rw [if_pos (by omega), if_pos (by omega)]; go_simp; rfl) | (rw [if_pos (by omega)]; go_simp; rfl) | skip
              · have c0 := Ext.cell_some hxw c0
                have c1 := Ext.cell_some hxw c1
                have hcA := Ext.cell_some hxw hcA
                have hcB := Ext.cell_some hxw hcB
                have hsp := Ext.cell_some hxw hsp
                clear hj
                go_simp
                try go_bits
                first | rfl | (rw [if_pos (by omega), if_pos (by omega)]; go_simp; rfl) | (rw [if_pos (by omega)]; go_simp; rfl) | skip
              · have c0 := Ext.cell_some hxw c0
                have c1 := Ext.cell_some hxw c1
                have hcA := Ext.cell_some hxw hcA
                have hcB := Ext.cell_some hxw hcB
                have hsp := Ext.cell_some hxw hsp
                clear hj
                go_simp
                try go_bits
                first | rfl | (rw [if_pos (by omega), if_pos (by omega)]; go_simp; rfl) | (rw [if_pos (by omega)]; go_simp; rfl) | skip
              · have c0 := Ext.cell_some hxw c0
                have c1 := Ext.cell_some hxw c1
                have hcA := Ext.cell_some hxw hcA
                have hcB := Ext.cell_some hxw hcB
                have hsp := Ext.cell_some hxw hsp
                clear hj
                go_simp
                try go_bits
                first | rfl | (rw [if_pos (by omega), if_pos (by omega)]; go_simp; rfl) | (rw [if_pos (by omega)]; go_simp; rfl) | skip
              · have c0 := Ext.cell_some hxw c0
                have c1 := Ext.cell_some hxw c1
                have hcA := Ext.cell_some hxw hcA
                have hcB := Ext.cell_some hxw hcB
                have hsp := Ext.cell_some hxw hsp
                clear hj
                go_simp
                try go_bits
                first | rfl | (rw [if_pos (by omega), if_pos (by omega)]; go_simp; rfl) | (rw [if_pos (by omega)]; go_simp; rfl) | skip
              · have c0 := Ext.cell_some hxw c0
                have c1 := Ext.cell_some hxw c1
                have hcA := Ext.cell_some hxw hcA
                have hcB := Ext.cell_some hxw hcB
                have hsp := Ext.cell_some hxw hsp
                clear hj
                go_simp
                try go_bits
                first | rfl | (rw [if_pos (by omega), if_pos (by omega)]; go_simp; rfl) | (rw [if_pos (by omega)]; go_simp; rfl) | skip
              · have c0 := Ext.cell_some hxw c0
                have c1 := Ext.cell_some hxw c1
                have hcA := Ext.cell_some hxw hcA
                have hcB := Ext.cell_some hxw hcB
                have hsp := Ext.cell_some hxw hsp
                clear hj
                go_simp
                try go_bits
                first | rfl | (rw [if_pos (by omega), if_pos (by omega)]; go_simp; rfl) | (rw [if_pos (by omega)]; go_simp; rfl) | skip
              · have c0 := Ext.cell_some hxw c0
                have c1 := Ext.cell_some hxw c1
                have hcA := Ext.cell_some hxw hcA
                have hcB := Ext.cell_some hxw hcB
                have hsp := Ext.cell_some hxw hsp
                clear hj
                go_simp
                try go_bits
                first | rfl | (rw [if_pos (by omega), if_pos (by omega)]; go_simp; rfl) | (rw [if_pos (by omega)]; go_simp; rfl) | skip
              · have c0 := Ext.cell_some hxw c0
                have c1 := Ext.cell_some hxw c1
                have hcA := Ext.cell_some hxw hcA
                have hcB := Ext.cell_some hxw hcB
                have hsp := Ext.cell_some hxw hsp
                clear hj
                go_simp
                try go_bits
                first | rfl | (rw [if_pos (by omega), if_pos (by omega)]; go_simp; rfl) | (rw [if_pos (by omega)]; go_simp; rfl) | skip
              · have c0 := Ext.cell_some hxw c0
                have c1 := Ext.cell_some hxw c1
                have hcA := Ext.cell_some hxw hcA
                have hcB := Ext.cell_some hxw hcB
                have hsp := Ext.cell_some hxw hsp
                clear hj
                go_simp
                try go_bits
                first | rfl | (rw [if_pos (by omega), if_pos (by omega)]; go_simp; rfl) | (rw [if_pos (by omega)]; go_simp; rfl) | skip
              · have c0 := Ext.cell_some hxw c0
                have c1 := Ext.cell_some hxw c1
                have hcA := Ext.cell_some hxw hcA
                have hcB := Ext.cell_some hxw hcB
                have hsp := Ext.cell_some hxw hsp
                clear hj
                go_simp
                try go_bits
                first | rfl | (rw [if_pos (by omega), if_pos (by omega)]; go_simp; rfl) | (rw [if_pos (by omega)]; go_simp; rfl) | skip
            case' hx8_6_p =>
              intro vs w8 hx8 hk
              clear hk
              replace c0 := Ext.cell_some hx8 c0
              replace c1 := Ext.cell_some hx8 c1
              replace hcA := Ext.cell_some hx8 hcA
              replace hcB := Ext.cell_some hx8 hcB
              replace hsp := Ext.cell_some hx8 hsp
              replace hx1 := Ext.trans hx1 hx8
              go_simp
              have ht8 := HX.out.2.2.1.ext hx8
              rw [fill_skip2 HF.out] at ht8
              have H8 := Lib.hid ht8
              clear ht8 hx8 c0 c1 hcA
              go_wp2
              go_roundw
              case rel => exact ⟨j + 1, by omega, by go_num, H8.out, hx1⟩
              case measure => simp [intOf]; omega
          cases av
          · have HF := Lib.hid (HM.out.2.2.2.2.2.2 i j (by rw [HX.out.2.1]; rfl))
            go_wp2
            refine wp_region_inv (by kernel_rfl) (.known ?hx8_7_v0 :: .known ?hx8_7_v1 :: .known ?hx8_7_v2 :: .known ?hx8_7_v3 :: .known ?hx8_7_v4 :: .known ?hx8_7_v5 :: .known ?hx8_7_v6 :: .known ?hx8_7_v7 :: .known ?hx8_7_v8 :: .known ?hx8_7_v9 :: .known ?hx8_7_v10 :: .known ?hx8_7_v11 :: .known ?hx8_7_v12 :: .known ?hx8_7_v13 :: .known ?hx8_7_v14 :: .known ?hx8_7_v15 :: .known ?hx8_7_v16 :: .known ?hx8_7_v17 :: .known ?hx8_7_v18 :: .known ?hx8_7_v19 :: .known ?hx8_7_v20 :: .known ?hx8_7_v21 :: .known ?hx8_7_v22 :: .known ?hx8_7_v23 :: .known (.bool false) :: .known ?hx8_7_v25 :: []) rfl (by kernel_rfl) ?hx8_7_s ?hx8_7_p
            case hx8_7_s =>
              intro vs
              refine ⟨fun w' hxw hj => ?_, fun w' hxw hj => ?_, fun w' hxw hj => ?_, fun w' hxw hj => ?_, fun w' hxw hj => ?_, fun w' hxw hj => ?_, fun w' hxw hj => ?_, fun w' hxw hj => ?_, fun w' hxw hj => ?_, fun w' hxw hj => ?_, fun w' hxw hj => ?_, fun w' hxw hj => ?_, fun w' hxw hj => ?_, fun w' hxw hj => ?_, fun w' hxw hj => ?_, fun w' hxw hj => ?_, fun w' hxw hj => ?_, fun w' hxw hj => ?_, fun w' hxw hj => ?_, fun w' hxw hj => ?_, fun w' hxw hj => ?_, fun w' hxw hj => ?_, fun w' hxw hj => ?_, fun w' hxw hj => ?_, fun w' hxw hj => ?_, fun w' hxw hj => ?_, trivial⟩
              · have c0 := Ext.cell_some hxw c0
                have c1 := Ext.cell_some hxw c1
                have hcA := Ext.cell_some hxw hcA
                have hcB := Ext.cell_some hxw hcB
                have hsp := Ext.cell_some hxw hsp
                clear hj
                go_simp
                try go_bits
                first | rfl | (rw [if_pos (by omega), if_pos (by omega)]; go_simp; rfl) | (rw [if_pos (by omega)]; go_simp; rfl) | skip
              · have c0 := Ext.cell_some hxw c0
                have c1 := Ext.cell_some hxw c1
                have hcA := Ext.cell_some hxw hcA
                have hcB := Ext.cell_some hxw hcB
                have hsp := Ext.cell_some hxw hsp
                clear hj
                go_simp
                try go_bits
                first | rfl | (rw [if_pos (by omega), if_pos (by omega)]; go_simp; rfl) | (rw [if_pos (by omega)]; go_simp; rfl) | skip
              · have c0 := Ext.cell_some hxw c0
                have c1 := Ext.cell_some hxw c1
                have hcA := Ext.cell_some hxw hcA
                have hcB := Ext.cell_some hxw hcB
                have hsp := Ext.cell_some hxw hsp
                clear hj
                go_simp
                try go_bits
                first | rfl | (rw [if_pos (by omega), if_pos (by omega)]; go_simp; rfl) | (rw [if_pos (by omega)]; go_simp; rfl) | skip
              · have c0 := Ext.cell_some hxw c0
                have c1 := Ext.cell_some hxw c1
                have hcA := Ext.cell_some hxw hcA
                have hcB := Ext.cell_some hxw hcB
                have hsp := Ext.cell_some hxw hsp
                clear hj
                go_simp
                try go_bits
                first | rfl | (rw [if_pos (by omega), if_pos (by omega)]; go_simp; rfl) | (rw [if_pos (by omega)]; go_simp; rfl) | skip
              · have c0 := Ext.cell_some hxw c0
                have c1 := Ext.cell_some hxw c1
                have hcA := Ext.cell_some hxw hcA
                have hcB := Ext.cell_some hxw hcB
                have hsp := Ext.cell_some hxw hsp
                clear hj
                go_simp
                try go_bits
                first | rfl | (rw [if_pos (by omega), if_pos (by omega)]; go_simp; rfl) | (rw [if_pos (by omega)]; go_simp; rfl) | skip
              · have c0 := Ext.cell_some hxw c0
                have c1 := Ext.cell_some hxw c1
                have hcA := Ext.cell_some hxw hcA
                have hcB := Ext.cell_some hxw hcB
                have hsp := Ext.cell_some hxw hsp
                clear hj
                go_simp
                try go_bits
                first | rfl | (rw [if_pos (by omega), if_pos (by omega)]; go_simp; rfl) | (rw [if_pos (by omega)]; go_simp; rfl) | skip
              · have c0 := Ext.cell_some hxw c0
                have c1 := Ext.cell_some hxw c1
                have hcA := Ext.cell_some hxw hcA
                have hcB := Ext.cell_some hxw hcB
                have hsp := Ext.cell_some hxw hsp
                clear hj
                go_simp
                try go_bits
                first | rfl | (rw [if_pos (by omega), if_pos (by omega)]; go_simp; rfl) | (rw [if_pos (by omega)]; go_simp; rfl) | skip
              · have c0 := Ext.cell_some hxw c0
                have c1 := Ext.cell_some hxw c1
                have hcA := Ext.cell_some hxw hcA
                have hcB := Ext.cell_some hxw hcB
                have hsp := Ext.cell_some hxw hsp
                clear hj
                go_simp
                try go_bits
                first | rfl | (rw [if_pos (by omega), if_pos (by omega)]; go_simp; rfl) | (rw [if_pos (by omega)]; go_simp; rfl) | skip
              · have c0 := Ext.cell_some hxw c0
                have c1 := Ext.cell_some hxw c1
                have hcA := Ext.cell_some hxw hcA
                have hcB := Ext.cell_some hxw hcB
                have hsp := Ext.cell_some hxw hsp
                clear hj
                go_simp
                try go_bits
                first | rfl | (rw [if_pos (by omega), if_pos (by omega)]; go_simp; rfl) | (rw [if_pos (by omega)]; go_simp; rfl) | skip
              · have c0 := Ext.cell_some hxw c0
                have c1 := Ext.cell_some hxw c1
                have hcA := Ext.cell_some hxw hcA
                have hcB := Ext.cell_some hxw hcB
                have hsp := Ext.cell_some hxw hsp
                clear hj
                go_simp
                try go_bits
                first | rfl | (rw [if_pos (by omega), if_pos (by omega)]; go_simp; rfl) | (rw [if_pos (by omega)]; go_simp; rfl) | skip
              · have c0 := Ext.cell_some hxw c0
                have c1 := Ext.cell_some hxw c1
                have hcA := Ext.cell_some hxw hcA
                have hcB := Ext.cell_some hxw hcB
                have hsp := Ext.cell_some hxw hsp
                clear hj
                go_simp
                try go_bits
                first | rfl | (rw [if_pos (by omega), if_pos (by omega)]; go_simp; rfl) | (rw [if_pos (by omega)]; go_simp; rfl) | skip
              · have c0 := Ext.cell_some hxw c0
                have c1 := Ext.cell_some hxw c1
                have hcA := Ext.cell_some hxw hcA
                have hcB := Ext.cell_some hxw hcB
                have hsp := Ext.cell_some hxw hsp
                clear hj
                go_simp
                try go_bits
                first | rfl | (rw [if_pos (by omega), if_pos (by omega)]; go_simp; rfl) | (rw [if_pos (by omega)]; go_simp; rfl) | skip
              · have c0 := Ext.cell_some hxw c0
                have c1 := Ext.cell_some hxw c1
                have hcA := Ext.cell_some hxw hcA
                have hcB := Ext.cell_some hxw hcB
                have hsp := Ext.cell_some hxw hsp
                clear hj
                go_simp
                try go_bits
                first | rfl | (rw [if_pos (by omega), if_pos (by omega)]; go_simp; rfl) | (rw [if_pos (by omega)]; go_simp; rfl) | skip
              · have c0 := Ext.cell_some hxw c0
                have c1 := Ext.cell_some hxw c1
                have hcA := Ext.cell_some hxw hcA
                have hcB := Ext.cell_some hxw hcB
                have hsp := Ext.cell_some hxw hsp
                clear hj
                go_simp
                try go_bits
                first | rfl | (rw [if_pos (by omega), if_pos (by omega)]; go_simp; rfl) | (rw [if_pos (by omega)]; go_simp; rfl) | skip
              · have c0 := Ext.cell_some hxw c0
                have c1 := Ext.cell_some hxw c1
                have hcA := Ext.cell_some hxw hcA
                have hcB := Ext.cell_some hxw hcB
                have hsp := Ext.cell_some hxw hsp
                clear hj
                go_simp
                try go_bits
                first | rfl | (rw [if_pos (by omega), if_pos (by omega)]; go_simp; rfl) | (rw [if_pos (by omega)]; go_simp; rfl) | skip
              · have c0 := Ext.cell_some hxw c0
                have c1 := Ext.cell_some hxw c1
                have hcA := Ext.cell_some hxw hcA
                have hcB := Ext.cell_some hxw hcB
                have hsp := Ext.cell_some hxw hsp
                clear hj
                go_simp
                try go_bits
                first | rfl | (rw [if_pos (by omega), if_pos (by omega)]; go_simp; rfl) | (rw [if_pos (by omega)]; go_simp; rfl) | skip
              · have c0 := Ext.cell_some hxw c0
                have c1 := Ext.cell_some hxw c1
                have hcA := Ext.cell_some hxw hcA
                have hcB := Ext.cell_some hxw hcB
                have hsp := Ext.cell_some hxw hsp
                clear hj
                go_simp
                try go_bits
                first | rfl | (rw [if_pos (by omega), if_pos (by omega)]; go_simp; rfl) | (rw [if_pos (by omega)]; go_simp; rfl) | skip
              · have c0 := Ext.cell_some hxw c0
                have c1 := Ext.cell_some hxw c1
                have hcA := Ext.cell_some hxw hcA
                have hcB := Ext.cell_some hxw hcB
                have hsp := Ext.cell_some hxw hsp
                clear hj
                go_simp
                try go_bits
                first | rfl | (rw [if_pos (by omega), if_pos (by omega)]; go_simp; rfl) | (rw [if_pos (by omega)]; go_simp; rfl) | skip
              · have c0 := Ext.cell_some hxw c0
                have c1 := Ext.cell_some hxw c1
                have hcA := Ext.cell_some hxw hcA
                have hcB := Ext.cell_some hxw hcB
                have hsp := Ext.cell_some hxw hsp
                clear hj
                go_simp
                try go_bits
                first | rfl | (rw [if_pos (by omega), if_pos (by omega)]; go_simp; rfl) | (rw [if_pos (by omega)]; go_simp; rfl) | skip
              · have c0 := Ext.cell_some hxw c0
                have c1 := Ext.cell_some hxw c1
                have hcA := Ext.cell_some hxw hcA
                have hcB := Ext.cell_some hxw hcB
                have hsp := Ext.cell_some hxw hsp
                clear hj
                go_simp
                try go_bits
                first | rfl | (rw [if_pos (by omega), if_pos (by omega)]; go_simp; rfl) | (rw [if_pos (by omega)]; go_simp; rfl) | skip
              · have c0 := Ext.cell_some hxw c0
                have c1 := Ext.cell_some hxw c1
                have hcA := Ext.cell_some hxw hcA
                have hcB := Ext.cell_some hxw hcB
                have hsp := Ext.cell_some hxw hsp
                clear hj
                go_simp
                try go_bits
                first | rfl | (rw [if_pos (by omega), if_pos (by omega)]; go_simp; rfl) | (rw [if_pos (by omega)]; go_simp; rfl) | skip
              · have c0 := Ext.cell_some hxw c0
                have c1 := Ext.cell_some hxw c1
                have hcA := Ext.cell_some hxw hcA
                have hcB := Ext.cell_some hxw hcB
                have hsp := Ext.cell_some hxw hsp
                clear hj
                go_simp
                try go_bits
                first | rfl | (rw [if_pos (by omega), if_pos (by omega)]; go_simp; rfl) | (rw [if_pos (by omega)]; go_simp; rfl) | skip
              · have c0 := Ext.cell_some hxw c0
                have c1 := Ext.cell_some hxw c1
                have hcA := Ext.cell_some hxw hcA
                have hcB := Ext.cell_some hxw hcB
                have hsp := Ext.cell_some hxw hsp
                clear hj
                go_simp
                try go_bits
                first | rfl | (rw [if_pos (by omega), if_pos (by omega)]; go_simp; rfl) | (rw [if_pos (by omega)]; go_simp; rfl) | skip
              · have c0 := Ext.cell_some hxw c0
                have c1 := Ext.cell_some hxw c1
                have hcA := Ext.cell_some hxw hcA
                have hcB := Ext.cell_some hxw hcB
                have hsp := Ext.cell_some hxw hsp
                clear hj
                go_simp
                try go_bits
                first | rfl | (rw [if_pos (by omega), if_pos (by omega)]; go_simp; rfl) | (rw [if_pos (by omega)]; go_simp; rfl) | skip
              · have c0 := Ext.cell_some hxw c0
                have c1 := Ext.cell_some hxw c1
                have hcA := Ext.cell_some hxw hcA
                have hcB := Ext.cell_some hxw hcB
                have hsp := Ext.cell_some hxw hsp
                clear hj
                go_simp
                try go_bits
                exact (HX.out.1 _ (HW.out.ext hxw)).mono fun _ _ ⟨h1, h2⟩ => ⟨h1, h2 ▸ Ext.refl _⟩
              · have c0 := Ext.cell_some hxw c0
                have c1 := Ext.cell_some hxw c1
                have hcA := Ext.cell_some hxw hcA
                have hcB := Ext.cell_some hxw hcB
                have hsp := Ext.cell_some hxw hsp
                clear hj
                go_simp
                try go_bits
                first | rfl | (rw [if_pos (by omega), if_pos (by omega)]; go_simp; rfl) | (rw [if_pos (by omega)]; go_simp; rfl) | skip
            case' hx8_7_p =>
              intro vs w8 hx8 hk
              clear hk
              replace c0 := Ext.cell_some hx8 c0
              replace c1 := Ext.cell_some hx8 c1
              replace hcA := Ext.cell_some hx8 hcA
              replace hcB := Ext.cell_some hx8 hcB
              replace hsp := Ext.cell_some hx8 hsp
              replace hx1 := Ext.trans hx1 hx8
              go_simp
              have ht8 := HX.out.2.2.1.ext hx8
              rw [fill_skip2 HF.out] at ht8
              have H8 := Lib.hid ht8
              clear ht8 hx8 c0 c1 hcA
              go_wp2
              go_roundw
              case rel => exact ⟨j + 1, by omega, by go_num, H8.out, hx1⟩
              case measure => simp [intOf]; omega
          · have HF := Lib.hid (HM.out.2.2.2.2.2.1 i j (by rw [HX.out.2.1]; rfl))
            go_wp2
            refine wp_region_inv (by kernel_rfl) (.known ?hx8_8_v0 :: .known ?hx8_8_v1 :: .known ?hx8_8_v2 :: .known ?hx8_8_v3 :: .known ?hx8_8_v4 :: .known ?hx8_8_v5 :: .known ?hx8_8_v6 :: .known ?hx8_8_v7 :: .known ?hx8_8_v8 :: .known ?hx8_8_v9 :: .known ?hx8_8_v10 :: .known ?hx8_8_v11 :: .known ?hx8_8_v12 :: .known ?hx8_8_v13 :: .known ?hx8_8_v14 :: .known ?hx8_8_v15 :: .known ?hx8_8_v16 :: .known ?hx8_8_v17 :: .known ?hx8_8_v18 :: .known ?hx8_8_v19 :: .known ?hx8_8_v20 :: .known ?hx8_8_v21 :: .known ?hx8_8_v22 :: .known ?hx8_8_v23 :: .known (.bool true) :: .known ?hx8_8_v25 :: []) rfl (by kernel_rfl) ?hx8_8_s ?hx8_8_p
            case hx8_8_s =>
              intro vs
              refine ⟨fun w' hxw hj => ?_, fun w' hxw hj => ?_, fun w' hxw hj => ?_, fun w' hxw hj => ?_, fun w' hxw hj => ?_, fun w' hxw hj => ?_, fun w' hxw hj => ?_, fun w' hxw hj => ?_, fun w' hxw hj => ?_, fun w' hxw hj => ?_, fun w' hxw hj => ?_, fun w' hxw hj => ?_, fun w' hxw hj => ?_, fun w' hxw hj => ?_, fun w' hxw hj => ?_, fun w' hxw hj => ?_, fun w' hxw hj => ?_, fun w' hxw hj => ?_, fun w' hxw hj => ?_, fun w' hxw hj => ?_, fun w' hxw hj => ?_, fun w' hxw hj => ?_, fun w' hxw hj => ?_, fun w' hxw hj => ?_, fun w' hxw hj => ?_, fun w' hxw hj => ?_, trivial⟩
              · have c0 := Ext.cell_some hxw c0
                have c1 := Ext.cell_some hxw c1
                have hcA := Ext.cell_some hxw hcA
                have hcB := Ext.cell_some hxw hcB
                have hsp := Ext.cell_some hxw hsp
                clear hj
                go_simp
                try go_bits
                first | rfl | (rw [if_pos (by omega), if_pos (by omega)]; go_simp; rfl) | (rw [if_pos (by omega)]; go_simp; rfl) | skip
              · have c0 := Ext.cell_some hxw c0
                have c1 := Ext.cell_some hxw c1
                have hcA := Ext.cell_some hxw hcA
                have hcB := Ext.cell_some hxw hcB
                have hsp := Ext.cell_some hxw hsp
                clear hj
                go_simp
                try go_bits
                first | rfl | (rw [if_pos (by omega), if_pos (by omega)]; go_simp; rfl) | (rw [if_pos (by omega)]; go_simp; rfl) | skip
              · have c0 := Ext.cell_some hxw c0
                have c1 := Ext.cell_some hxw c1
                have hcA := Ext.cell_some hxw hcA
                have hcB := Ext.cell_some hxw hcB
                have hsp := Ext.cell_some hxw hsp
                clear hj
                go_simp
                try go_bits
                first | rfl | (rw [if_pos (by omega), if_pos (by omega)]; go_simp; rfl) | (rw [if_pos (by omega)]; go_simp; rfl) | skip
              · have c0 := Ext.cell_some hxw c0
                have c1 := Ext.cell_some hxw c1
                have hcA := Ext.cell_some hxw hcA
                have hcB := Ext.cell_some hxw hcB
                have hsp := Ext.cell_some hxw hsp
                clear hj
                go_simp
                try go_bits
                first | rfl | (rw [if_pos (by omega), if_pos (by omega)]; go_simp; rfl) | (rw [if_pos (by omega)]; go_simp; rfl) | skip
              · have c0 := Ext.cell_some hxw c0
                have c1 := Ext.cell_some hxw c1
                have hcA := Ext.cell_some hxw hcA
                have hcB := Ext.cell_some hxw hcB
                have hsp := Ext.cell_some hxw hsp
                clear hj
                go_simp
                try go_bits
                first | rfl | (rw [if_pos (by omega), if_pos (by omega)]; go_simp; rfl) | (rw [if_pos (by omega)]; go_simp; rfl) | skip
              · have c0 := Ext.cell_some hxw c0
                have c1 := Ext.cell_some hxw c1
                have hcA := Ext.cell_some hxw hcA
                have hcB := Ext.cell_some hxw hcB
                have hsp := Ext.cell_some hxw hsp
                clear hj
                go_simp
                try go_bits
                first | rfl | (rw [if_pos (by omega), if_pos (by omega)]; go_simp; rfl) | (rw [if_pos (by omega)]; go_simp; rfl) | skip
              · have c0 := Ext.cell_some hxw c0
                have c1 := Ext.cell_some hxw c1
                have hcA := Ext.cell_some hxw hcA
                have hcB := Ext.cell_some hxw hcB
                have hsp := Ext.cell_some hxw hsp
                clear hj
                go_simp
                try go_bits
                first | rfl | (rw [if_pos (by omega), if_pos (by omega)]; go_simp; rfl) | (rw [if_pos (by omega)]; go_simp; rfl) | skip
              · have c0 := Ext.cell_some hxw c0
                have c1 := Ext.cell_some hxw c1
                have hcA := Ext.cell_some hxw hcA
                have hcB := Ext.cell_some hxw hcB
                have hsp := Ext.cell_some hxw hsp
                clear hj
                go_simp
                try go_bits
                first | rfl | (rw [if_pos (by omega), if_pos (by omega)]; go_simp; rfl) | (rw [if_pos (by omega)]; go_simp; rfl) | skip
              · have c0 := Ext.cell_some hxw c0
                have c1 := Ext.cell_some hxw c1
                have hcA := Ext.cell_some hxw hcA
                have hcB := Ext.cell_some hxw hcB
                have hsp := Ext.cell_some hxw hsp
                clear hj
                go_simp
                try go_bits
                first | rfl | (rw [if_pos (by omega), if_pos (by omega)]; go_simp; rfl) | (rw [if_pos (by omega)]; go_simp; rfl) | skip
              · have c0 := Ext.cell_some hxw c0
                have c1 := Ext.cell_some hxw c1
                have hcA := Ext.cell_some hxw hcA
                have hcB := Ext.cell_some hxw hcB
                have hsp := Ext.cell_some hxw hsp
                clear hj
                go_simp
                try go_bits
                first | rfl | (rw [if_pos (by omega), if_pos (by omega)]; go_simp; rfl) | (rw [if_pos (by omega)]; go_simp; rfl) | skip
              · have c0 := Ext.cell_some hxw c0
                have c1 := Ext.cell_some hxw c1
                have hcA := Ext.cell_some hxw hcA
                have hcB := Ext.cell_some hxw hcB
                have hsp := Ext.cell_some hxw hsp
                clear hj
                go_simp
                try go_bits
                first | rfl | (rw [if_pos (by omega), if_pos (by omega)]; go_simp; rfl) | (rw [if_pos (by omega)]; go_simp; rfl) | skip
              · have c0 := Ext.cell_some hxw c0
                have c1 := Ext.cell_some hxw c1
                have hcA := Ext.cell_some hxw hcA
                have hcB := Ext.cell_some hxw hcB
                have hsp := Ext.cell_some hxw hsp
                clear hj
                go_simp
                try go_bits
                first | rfl | (rw [if_pos (by omega), if_pos (by omega)]; go_simp; rfl) | (rw [if_pos (by omega)]; go_simp; rfl) | skip
              · have c0 := Ext.cell_some hxw c0
                have c1 := Ext.cell_some hxw c1
                have hcA := Ext.cell_some hxw hcA
                have hcB := Ext.cell_some hxw hcB
                have hsp := Ext.cell_some hxw hsp
                clear hj
                go_simp
                try go_bits
                first | rfl | (rw [if_pos (by omega), if_pos (by omega)]; go_simp; rfl) | (rw [if_pos (by omega)]; go_simp; rfl) | skip
              · have c0 := Ext.cell_some hxw c0
                have c1 := Ext.cell_some hxw c1
                have hcA := Ext.cell_some hxw hcA
                have hcB := Ext.cell_some hxw hcB
                have hsp := Ext.cell_some hxw hsp
                clear hj
                go_simp
                try go_bits
                first | rfl | (rw [if_pos (by omega), if_pos (by omega)]; go_simp; rfl) | (rw [if_pos (by omega)]; go_simp; rfl) | skip
              · have c0 := Ext.cell_some hxw c0
                have c1 := Ext.cell_some hxw c1
                have hcA := Ext.cell_some hxw hcA
                have hcB := Ext.cell_some hxw hcB
                have hsp := Ext.cell_some hxw hsp
                clear hj
                go_simp
                try go_bits
                first | rfl | (rw [if_pos (by omega), if_pos (by omega)]; go_simp; rfl) | (rw [if_pos (by omega)]; go_simp; rfl) | skip
              · have c0 := Ext.cell_some hxw c0
                have c1 := Ext.cell_some hxw c1
                have hcA := Ext.cell_some hxw hcA
                have hcB := Ext.cell_some hxw hcB
                have hsp := Ext.cell_some hxw hsp
                clear hj
                go_simp
                try go_bits
                first | rfl | (rw [if_pos (by omega), if_pos (by omega)]; go_simp; rfl) | (rw [if_pos (by omega)]; go_simp; rfl) | skip
              · have c0 := Ext.cell_some hxw c0
                have c1 := Ext.cell_some hxw c1
                have hcA := Ext.cell_some hxw hcA
                have hcB := Ext.cell_some hxw hcB
                have hsp := Ext.cell_some hxw hsp
                clear hj
                go_simp
                try go_bits
                first | rfl | (rw [if_pos (by omega), if_pos (by omega)]; go_simp; rfl) | (rw [if_pos (by omega)]; go_simp; rfl) | skip
              · have c0 := Ext.cell_some hxw c0
                have c1 := Ext.cell_some hxw c1
                have hcA := Ext.cell_some hxw hcA
                have hcB := Ext.cell_some hxw hcB
                have hsp := Ext.cell_some hxw hsp
                clear hj
                go_simp
                try go_bits
                first | rfl | (rw [if_pos (by omega), if_pos (by omega)]; go_simp; rfl) | (rw [if_pos (by omega)]; go_simp; rfl) | skip
              · have c0 := Ext.cell_some hxw c0
                have c1 := Ext.cell_some hxw c1
                have hcA := Ext.cell_some hxw hcA
                have hcB := Ext.cell_some hxw hcB
                have hsp := Ext.cell_some hxw hsp
                clear hj
                go_simp
                try go_bits
                first | rfl | (rw [if_pos (by omega), if_pos (by omega)]; go_simp; rfl) | (rw [if_pos (by omega)]; go_simp; rfl) | skip
              · have c0 := Ext.cell_some hxw c0
                have c1 := Ext.cell_some hxw c1
                have hcA := Ext.cell_some hxw hcA
                have hcB := Ext.cell_some hxw hcB
                have hsp := Ext.cell_some hxw hsp
                clear hj
                go_simp
                try go_bits
                first | rfl | (rw [if_pos (by omega), if_pos (by omega)]; go_simp; rfl) | (rw [if_pos (by omega)]; go_simp; rfl) | skip
              · have c0 := Ext.cell_some hxw c0
                have c1 := Ext.cell_some hxw c1
                have hcA := Ext.cell_some hxw hcA
                have hcB := Ext.cell_some hxw hcB
                have hsp := Ext.cell_some hxw hsp
                clear hj
                go_simp
                try go_bits
                first | rfl | (rw [if_pos (by omega), if_pos (by omega)]; go_simp; rfl) | (rw [if_pos (by omega)]; go_simp; rfl) | skip
              · have c0 := Ext.cell_some hxw c0
                have c1 := Ext.cell_some hxw c1
                have hcA := Ext.cell_some hxw hcA
                have hcB := Ext.cell_some hxw hcB
                have hsp := Ext.cell_some hxw hsp
                clear hj
                go_simp
                try go_bits
                first | rfl | (rw [if_pos (by omega), if_pos (by omega)]; go_simp; rfl) | (rw [if_pos (by omega)]; go_simp; rfl) | skip
              · have c0 := Ext.cell_some hxw c0
                have c1 := Ext.cell_some hxw c1
                have hcA := Ext.cell_some hxw hcA
                have hcB := Ext.cell_some hxw hcB
                have hsp := Ext.cell_some hxw hsp
                clear hj
                go_simp
                try go_bits
                first | rfl | (rw [if_pos (by omega), if_pos (by omega)]; go_simp; rfl) | (rw [if_pos (by omega)]; go_simp; rfl) | skip
              · have c0 := Ext.cell_some hxw c0
                have c1 := Ext.cell_some hxw c1
                have hcA := Ext.cell_some hxw hcA
                have hcB := Ext.cell_some hxw hcB
                have hsp := Ext.cell_some hxw hsp
                clear hj
                go_simp
                try go_bits
                first | rfl | (rw [if_pos (by omega), if_pos (by omega)]; go_simp; rfl) | (rw [if_pos (by omega)]; go_simp; rfl) | skip
              · have c0 := Ext.cell_some hxw c0
                have c1 := Ext.cell_some hxw c1
                have hcA := Ext.cell_some hxw hcA
                have hcB := Ext.cell_some hxw hcB
                have hsp := Ext.cell_some hxw hsp
                clear hj
                go_simp
                try go_bits
                exact (HX.out.1 _ (HW.out.ext hxw)).mono fun _ _ ⟨h1, h2⟩ => ⟨h1, h2 ▸ Ext.refl _⟩
              · have c0 := Ext.cell_some hxw c0
                have c1 := Ext.cell_some hxw c1
                have hcA := Ext.cell_some hxw hcA
                have hcB := Ext.cell_some hxw hcB
                have hsp := Ext.cell_some hxw hsp
                clear hj
                go_simp
                try go_bits
                first | rfl | (rw [if_pos (by omega), if_pos (by omega)]; go_simp; rfl) | (rw [if_pos (by omega)]; go_simp; rfl) | skip
            case' hx8_8_p =>
              intro vs w8 hx8 hk
              clear hk
              replace c0 := Ext.cell_some hx8 c0
              replace c1 := Ext.cell_some hx8 c1
              replace hcA := Ext.cell_some hx8 hcA
              replace hcB := Ext.cell_some hx8 hcB
              replace hsp := Ext.cell_some hx8 hsp
              replace hx1 := Ext.trans hx1 hx8
              go_simp
              have ht8 := HX.out.2.2.1.ext hx8
              have hc8 := ht8.at i j HX.out.2.2.2 (by rw [tabF_row_length hlti]; exact hltj)
              have hf8 := ht8.frozen i j HX.out.2.2.2
              have hs8 := ht8.set i j HX.out.2.2.2 1
              rw [← HF.out, fill_set hlti, HF.out] at hs8
              have hx9 := hx1.setCell (p := ⟨gs i, j, none⟩) (ht8.rowlt i HX.out.2.2.2).1 (.int .i64 1)
              have H8 := Lib.hid (And.intro hs8 hx9)
              clear ht8 hs8 hx9 hx8 hx1 c0 c1 hcA
              go_wp2
              go_roundw
              case rel => exact ⟨j + 1, by omega, by go_num, H8.out.1, H8.out.2⟩
              case measure => simp [intOf]; omega
        · have hjL : j = n := by omega
          rw [hjL, fill_row (d := 0) (fun q _ _ => by omega) (fun q h => by omega)] at ht
          have HT := Lib.hid ht
          clear ht
          subst hjL
          go_wp2
          go_roundw
          case rel => exact ⟨i + 1, by omega, by go_num, HT.out, hx1⟩
          case measure => simp [intOf]; omega
    · have hiL : i = n := by omega
      rw [hiL, fill_all (Nat.le_refl _)] at ht
      have htl : (tabF n n T).length = n := tabF_length _ _ _
      have HT := Lib.hid (ht.reads htl.symm)
      clear ht htl
      subst hiL
      go_wp2
      go_ret2
      exact ⟨_, by rw [HM.out.2.2.1]; rfl, by rw [HM.out.2.2.1]; exact HT.out, hx.trans hx1⟩
end Go.Proofs.YtfiembmfkokllaaGreat

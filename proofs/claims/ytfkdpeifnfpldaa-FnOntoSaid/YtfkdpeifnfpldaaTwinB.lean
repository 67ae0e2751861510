/- Contracts: the reference's twins of a word. -/
import Derived.Test.YtfkdpeifnfpldaaTwinA
import Derived.Test.YtfkdpeifnfpldaaApplyD
import Derived.Test.YtfkdpeifnfpldaaPkC
namespace Go.Proofs.Ytfkdpeifnfpldaa
open Go.RowKit Go.Cm

set_option maxRecDepth 100000 in
set_option maxHeartbeats 4000000 in
theorem spec_l12Twin_any (n m k V g cap B : Nat) (o : ByteArray) (w : World) (hf : CodeFit 2 n o) (hnm : n ≤ m) (hm7 : m ≤ 7) (hV : V = 2 ^ m) (hk : k < V) (hw : Own w B 9 (.slice (some ⟨g, 0, none⟩) V cap) (scells (wordsL 2 m))) :
    Calls Try.prog 57 #[.agg #[.int .i64 2, .int .i64 n, .string o], .slice (some ⟨g, 0, none⟩) V cap, .int .i64 k] w fun e w' => e = .returned (srcV ((twinAt 2 n o (wordsL 2 m) k).map (·.2))) ∧ Ext w w' := by
  have hn1 := hf.n1
  have hn4 := hf.n4
  have hV128 := pow2_small hm7
  rw [← hV] at hV128
  obtain ⟨e, he⟩ : ∃ e, e = n - 1 := ⟨_, rfl⟩
  have hei : (n : Int) - 1 = (e : Int) := by omega
  have hen : e + 1 ≤ n := by omega
  obtain ⟨q, hq⟩ : ∃ q, q + e = m := ⟨m - e, by omega⟩
  have hqm : q ≤ m := by omega
  obtain ⟨r, hr⟩ : ∃ r, r = twinAt 2 n o (wordsL 2 m) k := ⟨_, rfl⟩
  rw [← hr]
  have hr' : r = firstOf V (twinG n o (wordsL 2 m) k) := by
    rw [hr]
    unfold twinAt
    rw [show (wordsL 2 m).length = V by rw [hV]; simp [wordsL]]
    rfl
  have hca : ∀ (u : List UInt8) (w : World), u.length ≤ 7 → areLet 2 u = true → Calls Try.prog 63 #[.agg #[.int .i64 2, .int .i64 n, .string o], .string (mkS u)] w fun e w' => e = .returned (.string (mkS (applyL 2 n o u))) ∧ Ext w w' := by
    intro u w hl ha
    have h := spec_l11Apply_any 2 n o (mkS u) w hf (by rw [mkS_size]; omega) (by rw [mkS_data]; exact ha)
    rw [mkS_data] at h
    exact h
  obtain ⟨u, hu, hcell, hul, hua⟩ := wordsL_cell (by omega) (by omega) hw hV hk
  obtain ⟨S, hS⟩ : ∃ S, S = mkS u := ⟨_, rfl⟩
  have hSs : S.size ≤ m := by rw [hS, mkS_size]; omega
  have hSs2 : m ≤ S.size := by rw [hS, mkS_size]; omega
  have hSq : (S.size : Int) - (e : Int) = (q : Int) := by omega
  rw [← hS] at hcell
  have hcu := fun w => hca u w (by omega) hua
  rw [← hS] at hcu
  obtain ⟨X, hX⟩ : ∃ X, X = mkS (applyL 2 n o u) := ⟨_, rfl⟩
  rw [← hX] at hcu
  have HR := Lib.hid (And.intro hr' (And.intro he (And.intro hca (And.intro hq hV))))
  have HU := Lib.hid (And.intro hu (And.intro hul (And.intro hua (And.intro hS (And.intro hcu hX)))))
  clear hr hr' he hca hq hV hu hul hua hS hcu hX
  have bo := (show Blk (w.alloc (.cells #[.int .i64 2, .int .i64 n, .string o] 25)) w.heap.size #[.int .i64 2, .int .i64 n, .string o] by (repeat (first | (refine Blk.mk' ?_; (simp; done)) | apply Blk.old)))
  have hx : Ext w (w.alloc (.cells #[.int .i64 2, .int .i64 n, .string o] 25)) := Ext.alloc _ _
  have hcell1 := hx.cell_some hcell
  have h0 : NoneTo (twinG n o (wordsL 2 m) k) (k + 1) := fun y hy => by unfold twinG; rw [if_neg (by omega)]
  clear hcell
  go_enter Try.func57, Try.ntmps57
  go_wp2
  go_loopw [10] (fun i wr => ∃ j : Nat, j ≤ V ∧ k < j ∧ i = .int .i64 j ∧ NoneTo (twinG n o (wordsL 2 m) k) j ∧ Ext w wr ∧ Blk wr w.heap.size #[.int .i64 2, .int .i64 n, .string o]) (fun i _ => V - (intOf i).toNat)
  case atStart => exact ⟨k + 1, by omega, by omega, by go_num, h0, hx, bo⟩
  case round =>
    clear bo hx hcell1 h0
    obtain ⟨j, hj, hkj, rfl, hno3, hxs, bo⟩ := hrel
    by_cases hltj : j < V
    · · have hws := hw.ext hxs
        obtain ⟨v, hv, hcellv, hvl, hva⟩ := wordsL_cell (i := j) (by omega) (by omega) hws HR.out.2.2.2.2 (by omega)
        obtain ⟨d0, d1, d2, -, -, -⟩ := bo.c3
        have htw := twinB_eq (K := 2) (o := o) HR.out.2.1 HR.out.2.2.2.1 HU.out.2.1 hvl
        have hG : twinG n o (wordsL 2 m) k j = if twinB 2 n o u v = true then some (u, v) else none := by
          unfold twinG
          rw [← HU.out.1, ← hv]
          simp [hkj]
        rw [← HU.out.2.2.2.1, ← HU.out.2.2.2.2.2] at htw
        obtain ⟨T, hT⟩ : ∃ T, T = mkS v := ⟨_, rfl⟩
        have hTs : T.size ≤ m := by rw [hT, mkS_size]; omega
        have hTs2 : m ≤ T.size := by rw [hT, mkS_size]; omega
        have hTq : (T.size : Int) - (e : Int) = (q : Int) := by omega
        rw [← hT] at hcellv htw
        have hcv := fun w => HR.out.2.2.1 v w (by omega) hva
        rw [← hT] at hcv
        obtain ⟨Y, hY⟩ : ∃ Y, Y = mkS (applyL 2 n o v) := ⟨_, rfl⟩
        rw [← hY] at htw hcv
        have HP := Lib.hid (And.intro hG (And.intro htw (And.intro hcv hT)))
        clear hG htw hcv hv hvl hva hT hY hws
        cases tA : ((S.extract 0 e).toList == (T.extract 0 e).toList) with
        | false =>
          have hGn : twinG n o (wordsL 2 m) k j = none := by rw [HP.out.1, HP.out.2.1]; simp_all
          have HGN := Lib.hid hGn
          clear hGn
          go_wp2
          refine wp_region_inv (by kernel_rfl) (.known ?hx5_16_v0 :: .known ?hx5_16_v1 :: .known ?hx5_16_v2 :: .known ?hx5_16_v3 :: .known ?hx5_16_v4 :: .known ?hx5_16_v5 :: .known ?hx5_16_v6 :: .known ?hx5_16_v7 :: .known ?hx5_16_v8 :: .known ?hx5_16_v9 :: .known ?hx5_16_v10 :: .known ?hx5_16_v11 :: .known ?hx5_16_v12 :: .known ?hx5_16_v13 :: .known ?hx5_16_v14 :: .known ?hx5_16_v15 :: .known ?hx5_16_v16 :: .known ?hx5_16_v17 :: .known ?hx5_16_v18 :: .known ?hx5_16_v19 :: .known ?hx5_16_v20 :: .known ?hx5_16_v21 :: .known ?hx5_16_v22 :: .known ?hx5_16_v23 :: .known ?hx5_16_v24 :: .known ?hx5_16_v25 :: .known ?hx5_16_v26 :: .known ?hx5_16_v27 :: .known ?hx5_16_v28 :: .known ?hx5_16_v29 :: .known ?hx5_16_v30 :: []) rfl (by kernel_rfl) ?hx5_16_s ?hx5_16_p
          case hx5_16_s =>
            intro vs
            refine ⟨fun w' hxw hj => ?_, fun w' hxw hj => ?_, fun w' hxw hj => ?_, fun w' hxw hj => ?_, fun w' hxw hj => ?_, fun w' hxw hj => ?_, fun w' hxw hj => ?_, fun w' hxw hj => ?_, fun w' hxw hj => ?_, fun w' hxw hj => ?_, fun w' hxw hj => ?_, fun w' hxw hj => ?_, fun w' hxw hj => ?_, fun w' hxw hj => ?_, fun w' hxw hj => ?_, fun w' hxw hj => ?_, fun w' hxw hj => ?_, fun w' hxw hj => ?_, fun w' hxw hj => ?_, fun w' hxw hj => ?_, fun w' hxw hj => ?_, fun w' hxw hj => ?_, fun w' hxw hj => ?_, fun w' hxw hj => ?_, fun w' hxw hj => ?_, fun w' hxw hj => ?_, fun w' hxw hj => ?_, fun w' hxw hj => ?_, fun w' hxw hj => ?_, fun w' hxw hj => ?_, fun w' hxw hj => ?_, trivial⟩
            · have d0 := Ext.cell_some hxw d0
              have d1 := Ext.cell_some hxw d1
              have d2 := Ext.cell_some hxw d2
              clear hj
              go_simp
              try go_bits
              first | rfl | (rw [if_pos (by omega), if_pos (by omega)]; go_simp; rfl) | (rw [if_pos (by omega)]; go_simp; rfl) | skip
            · have d0 := Ext.cell_some hxw d0
              have d1 := Ext.cell_some hxw d1
              have d2 := Ext.cell_some hxw d2
              clear hj
              go_simp
              try go_bits
              first | rfl | (rw [if_pos (by omega), if_pos (by omega)]; go_simp; rfl) | (rw [if_pos (by omega)]; go_simp; rfl) | skip
            · have d0 := Ext.cell_some hxw d0
              have d1 := Ext.cell_some hxw d1
              have d2 := Ext.cell_some hxw d2
              clear hj
              go_simp
              try go_bits
              first | rfl | (rw [if_pos (by omega), if_pos (by omega)]; go_simp; rfl) | (rw [if_pos (by omega)]; go_simp; rfl) | skip
            · have d0 := Ext.cell_some hxw d0
              have d1 := Ext.cell_some hxw d1
              have d2 := Ext.cell_some hxw d2
              clear hj
              go_simp
              try go_bits
              first | rfl | (rw [if_pos (by omega), if_pos (by omega)]; go_simp; rfl) | (rw [if_pos (by omega)]; go_simp; rfl) | skip
            · have d0 := Ext.cell_some hxw d0
              have d1 := Ext.cell_some hxw d1
              have d2 := Ext.cell_some hxw d2
              clear hj
              go_simp
              try go_bits
              first | rfl | (rw [if_pos (by omega), if_pos (by omega)]; go_simp; rfl) | (rw [if_pos (by omega)]; go_simp; rfl) | skip
            · have d0 := Ext.cell_some hxw d0
              have d1 := Ext.cell_some hxw d1
              have d2 := Ext.cell_some hxw d2
              clear hj
              go_simp
              try go_bits
              first | rfl | (rw [if_pos (by omega), if_pos (by omega)]; go_simp; rfl) | (rw [if_pos (by omega)]; go_simp; rfl) | skip
            · have d0 := Ext.cell_some hxw d0
              have d1 := Ext.cell_some hxw d1
              have d2 := Ext.cell_some hxw d2
              clear hj
              go_simp
              try go_bits
              first | rfl | (rw [if_pos (by omega), if_pos (by omega)]; go_simp; rfl) | (rw [if_pos (by omega)]; go_simp; rfl) | skip
            · have d0 := Ext.cell_some hxw d0
              have d1 := Ext.cell_some hxw d1
              have d2 := Ext.cell_some hxw d2
              clear hj
              go_simp
              try go_bits
              first | rfl | (rw [if_pos (by omega), if_pos (by omega)]; go_simp; rfl) | (rw [if_pos (by omega)]; go_simp; rfl) | skip
            · have d0 := Ext.cell_some hxw d0
              have d1 := Ext.cell_some hxw d1
              have d2 := Ext.cell_some hxw d2
              clear hj
              go_simp
              try go_bits
              first | rfl | (rw [if_pos (by omega), if_pos (by omega)]; go_simp; rfl) | (rw [if_pos (by omega)]; go_simp; rfl) | skip
            · have d0 := Ext.cell_some hxw d0
              have d1 := Ext.cell_some hxw d1
              have d2 := Ext.cell_some hxw d2
              clear hj
              go_simp
              try go_bits
              first | rfl | (rw [if_pos (by omega), if_pos (by omega)]; go_simp; rfl) | (rw [if_pos (by omega)]; go_simp; rfl) | skip
            · have d0 := Ext.cell_some hxw d0
              have d1 := Ext.cell_some hxw d1
              have d2 := Ext.cell_some hxw d2
              clear hj
              go_simp
              try go_bits
              first | rfl | (rw [if_pos (by omega), if_pos (by omega)]; go_simp; rfl) | (rw [if_pos (by omega)]; go_simp; rfl) | skip
            · have d0 := Ext.cell_some hxw d0
              have d1 := Ext.cell_some hxw d1
              have d2 := Ext.cell_some hxw d2
              clear hj
              go_simp
              try go_bits
              first | rfl | (rw [if_pos (by omega), if_pos (by omega)]; go_simp; rfl) | (rw [if_pos (by omega)]; go_simp; rfl) | skip
            · have d0 := Ext.cell_some hxw d0
              have d1 := Ext.cell_some hxw d1
              have d2 := Ext.cell_some hxw d2
              clear hj
              go_simp
              try go_bits
              first | rfl | (rw [if_pos (by omega), if_pos (by omega)]; go_simp; rfl) | (rw [if_pos (by omega)]; go_simp; rfl) | skip
            · have d0 := Ext.cell_some hxw d0
              have d1 := Ext.cell_some hxw d1
              have d2 := Ext.cell_some hxw d2
              clear hj
              go_simp
              try go_bits
              first | rfl | (rw [if_pos (by omega), if_pos (by omega)]; go_simp; rfl) | (rw [if_pos (by omega)]; go_simp; rfl) | skip
            · have d0 := Ext.cell_some hxw d0
              have d1 := Ext.cell_some hxw d1
              have d2 := Ext.cell_some hxw d2
              clear hj
              go_simp
              try go_bits
              first | rfl | (rw [if_pos (by omega), if_pos (by omega)]; go_simp; rfl) | (rw [if_pos (by omega)]; go_simp; rfl) | skip
            · have d0 := Ext.cell_some hxw d0
              have d1 := Ext.cell_some hxw d1
              have d2 := Ext.cell_some hxw d2
              clear hj
              go_simp
              try go_bits
              first | rfl | (rw [if_pos (by omega), if_pos (by omega)]; go_simp; rfl) | (rw [if_pos (by omega)]; go_simp; rfl) | skip
            · have d0 := Ext.cell_some hxw d0
              have d1 := Ext.cell_some hxw d1
              have d2 := Ext.cell_some hxw d2
              clear hj
              go_simp
              try go_bits
              first | rfl | (rw [if_pos (by omega), if_pos (by omega)]; go_simp; rfl) | (rw [if_pos (by omega)]; go_simp; rfl) | skip
            · have d0 := Ext.cell_some hxw d0
              have d1 := Ext.cell_some hxw d1
              have d2 := Ext.cell_some hxw d2
              clear hj
              go_simp
              try go_bits
              first | rfl | (rw [if_pos (by omega), if_pos (by omega)]; go_simp; rfl) | (rw [if_pos (by omega)]; go_simp; rfl) | skip
            · have d0 := Ext.cell_some hxw d0
              have d1 := Ext.cell_some hxw d1
              have d2 := Ext.cell_some hxw d2
              clear hj
              go_simp
              try go_bits
              first | rfl | (rw [if_pos (by omega), if_pos (by omega)]; go_simp; rfl) | (rw [if_pos (by omega)]; go_simp; rfl) | skip
            · have d0 := Ext.cell_some hxw d0
              have d1 := Ext.cell_some hxw d1
              have d2 := Ext.cell_some hxw d2
              clear hj
              go_simp
              try go_bits
              first | rfl | (rw [if_pos (by omega), if_pos (by omega)]; go_simp; rfl) | (rw [if_pos (by omega)]; go_simp; rfl) | skip
            · have d0 := Ext.cell_some hxw d0
              have d1 := Ext.cell_some hxw d1
              have d2 := Ext.cell_some hxw d2
              clear hj
              go_simp
              try go_bits
              first | rfl | (rw [if_pos (by omega), if_pos (by omega)]; go_simp; rfl) | (rw [if_pos (by omega)]; go_simp; rfl) | skip
            · have d0 := Ext.cell_some hxw d0
              have d1 := Ext.cell_some hxw d1
              have d2 := Ext.cell_some hxw d2
              clear hj
              go_simp
              try go_bits
              first | rfl | (rw [if_pos (by omega), if_pos (by omega)]; go_simp; rfl) | (rw [if_pos (by omega)]; go_simp; rfl) | skip
            · have d0 := Ext.cell_some hxw d0
              have d1 := Ext.cell_some hxw d1
              have d2 := Ext.cell_some hxw d2
              clear hj
              go_simp
              try go_bits
              first | rfl | (rw [if_pos (by omega), if_pos (by omega)]; go_simp; rfl) | (rw [if_pos (by omega)]; go_simp; rfl) | skip
            · have d0 := Ext.cell_some hxw d0
              have d1 := Ext.cell_some hxw d1
              have d2 := Ext.cell_some hxw d2
              clear hj
              go_simp
              try go_bits
              first | rfl | (rw [if_pos (by omega), if_pos (by omega)]; go_simp; rfl) | (rw [if_pos (by omega)]; go_simp; rfl) | skip
            · have d0 := Ext.cell_some hxw d0
              have d1 := Ext.cell_some hxw d1
              have d2 := Ext.cell_some hxw d2
              clear hj
              go_simp
              try go_bits
              first | rfl | (rw [if_pos (by omega), if_pos (by omega)]; go_simp; rfl) | (rw [if_pos (by omega)]; go_simp; rfl) | skip
            · have d0 := Ext.cell_some hxw d0
              have d1 := Ext.cell_some hxw d1
              have d2 := Ext.cell_some hxw d2
              clear hj
              go_simp
              try go_bits
              first | rfl | (rw [if_pos (by omega), if_pos (by omega)]; go_simp; rfl) | (rw [if_pos (by omega)]; go_simp; rfl) | skip
            · have d0 := Ext.cell_some hxw d0
              have d1 := Ext.cell_some hxw d1
              have d2 := Ext.cell_some hxw d2
              clear hj
              go_simp
              try go_bits
              first | rfl | (rw [if_pos (by omega), if_pos (by omega)]; go_simp; rfl) | (rw [if_pos (by omega)]; go_simp; rfl) | skip
            · have d0 := Ext.cell_some hxw d0
              have d1 := Ext.cell_some hxw d1
              have d2 := Ext.cell_some hxw d2
              clear hj
              go_simp
              try go_bits
              first | rfl | (rw [if_pos (by omega), if_pos (by omega)]; go_simp; rfl) | (rw [if_pos (by omega)]; go_simp; rfl) | skip
            · have d0 := Ext.cell_some hxw d0
              have d1 := Ext.cell_some hxw d1
              have d2 := Ext.cell_some hxw d2
              clear hj
              go_simp
              try go_bits
              first | rfl | (rw [if_pos (by omega), if_pos (by omega)]; go_simp; rfl) | (rw [if_pos (by omega)]; go_simp; rfl) | skip
            · have d0 := Ext.cell_some hxw d0
              have d1 := Ext.cell_some hxw d1
              have d2 := Ext.cell_some hxw d2
              clear hj
              go_simp
              try go_bits
              first | rfl | (rw [if_pos (by omega), if_pos (by omega)]; go_simp; rfl) | (rw [if_pos (by omega)]; go_simp; rfl) | skip
            · have d0 := Ext.cell_some hxw d0
              have d1 := Ext.cell_some hxw d1
              have d2 := Ext.cell_some hxw d2
              clear hj
              go_simp
              try go_bits
              first | rfl | (rw [if_pos (by omega), if_pos (by omega)]; go_simp; rfl) | (rw [if_pos (by omega)]; go_simp; rfl) | skip
          case' hx5_16_p =>
            intro vs w5 hx5 hk
            clear hk
            replace d0 := Ext.cell_some hx5 d0
            replace d1 := Ext.cell_some hx5 d1
            replace d2 := Ext.cell_some hx5 d2
            replace bo := Blk.ext bo hx5
            replace hxs := Ext.trans hxs hx5
            go_simp
            clear hx5 d0 d1 d2
            go_wp2
            go_roundw
            case rel => exact ⟨j + 1, by omega, by omega, by go_num, hno3.succ HGN.out, hxs, bo⟩
            case measure => simp [intOf]; omega
        | true => cases tB : ((S.extract q S.size).toList == (T.extract q T.size).toList) with
        | false =>
          have hGn : twinG n o (wordsL 2 m) k j = none := by rw [HP.out.1, HP.out.2.1]; simp_all
          have HGN := Lib.hid hGn
          clear hGn
          go_wp2
          refine wp_region_inv (by kernel_rfl) (.known ?hx5_17_v0 :: .known ?hx5_17_v1 :: .known ?hx5_17_v2 :: .known ?hx5_17_v3 :: .known ?hx5_17_v4 :: .known ?hx5_17_v5 :: .known ?hx5_17_v6 :: .known ?hx5_17_v7 :: .known ?hx5_17_v8 :: .known ?hx5_17_v9 :: .known ?hx5_17_v10 :: .known ?hx5_17_v11 :: .known ?hx5_17_v12 :: .known ?hx5_17_v13 :: .known ?hx5_17_v14 :: .known ?hx5_17_v15 :: .known ?hx5_17_v16 :: .known ?hx5_17_v17 :: .known ?hx5_17_v18 :: .known ?hx5_17_v19 :: .known ?hx5_17_v20 :: .known ?hx5_17_v21 :: .known ?hx5_17_v22 :: .known ?hx5_17_v23 :: .known ?hx5_17_v24 :: .known ?hx5_17_v25 :: .known ?hx5_17_v26 :: .known ?hx5_17_v27 :: .known ?hx5_17_v28 :: .known ?hx5_17_v29 :: .known ?hx5_17_v30 :: []) rfl (by kernel_rfl) ?hx5_17_s ?hx5_17_p
          case hx5_17_s =>
            intro vs
            refine ⟨fun w' hxw hj => ?_, fun w' hxw hj => ?_, fun w' hxw hj => ?_, fun w' hxw hj => ?_, fun w' hxw hj => ?_, fun w' hxw hj => ?_, fun w' hxw hj => ?_, fun w' hxw hj => ?_, fun w' hxw hj => ?_, fun w' hxw hj => ?_, fun w' hxw hj => ?_, fun w' hxw hj => ?_, fun w' hxw hj => ?_, fun w' hxw hj => ?_, fun w' hxw hj => ?_, fun w' hxw hj => ?_, fun w' hxw hj => ?_, fun w' hxw hj => ?_, fun w' hxw hj => ?_, fun w' hxw hj => ?_, fun w' hxw hj => ?_, fun w' hxw hj => ?_, fun w' hxw hj => ?_, fun w' hxw hj => ?_, fun w' hxw hj => ?_, fun w' hxw hj => ?_, fun w' hxw hj => ?_, fun w' hxw hj => ?_, fun w' hxw hj => ?_, fun w' hxw hj => ?_, fun w' hxw hj => ?_, trivial⟩
            · have d0 := Ext.cell_some hxw d0
              have d1 := Ext.cell_some hxw d1
              have d2 := Ext.cell_some hxw d2
              clear hj
              go_simp
              try go_bits
              first | rfl | (rw [if_pos (by omega), if_pos (by omega)]; go_simp; rfl) | (rw [if_pos (by omega)]; go_simp; rfl) | skip
            · have d0 := Ext.cell_some hxw d0
              have d1 := Ext.cell_some hxw d1
              have d2 := Ext.cell_some hxw d2
              clear hj
              go_simp
              try go_bits
              first | rfl | (rw [if_pos (by omega), if_pos (by omega)]; go_simp; rfl) | (rw [if_pos (by omega)]; go_simp; rfl) | skip
            · have d0 := Ext.cell_some hxw d0
              have d1 := Ext.cell_some hxw d1
              have d2 := Ext.cell_some hxw d2
              clear hj
              go_simp
              try go_bits
              first | rfl | (rw [if_pos (by omega), if_pos (by omega)]; go_simp; rfl) | (rw [if_pos (by omega)]; go_simp; rfl) | skip
            · have d0 := Ext.cell_some hxw d0
              have d1 := Ext.cell_some hxw d1
              have d2 := Ext.cell_some hxw d2
              clear hj
              go_simp
              try go_bits
              first | rfl | (rw [if_pos (by omega), if_pos (by omega)]; go_simp; rfl) | (rw [if_pos (by omega)]; go_simp; rfl) | skip
            · have d0 := Ext.cell_some hxw d0
              have d1 := Ext.cell_some hxw d1
              have d2 := Ext.cell_some hxw d2
              clear hj
              go_simp
              try go_bits
              first | rfl | (rw [if_pos (by omega), if_pos (by omega)]; go_simp; rfl) | (rw [if_pos (by omega)]; go_simp; rfl) | skip
            · have d0 := Ext.cell_some hxw d0
              have d1 := Ext.cell_some hxw d1
              have d2 := Ext.cell_some hxw d2
              clear hj
              go_simp
              try go_bits
              first | rfl | (rw [if_pos (by omega), if_pos (by omega)]; go_simp; rfl) | (rw [if_pos (by omega)]; go_simp; rfl) | skip
            · have d0 := Ext.cell_some hxw d0
              have d1 := Ext.cell_some hxw d1
              have d2 := Ext.cell_some hxw d2
              clear hj
              go_simp
              try go_bits
              first | rfl | (rw [if_pos (by omega), if_pos (by omega)]; go_simp; rfl) | (rw [if_pos (by omega)]; go_simp; rfl) | skip
            · have d0 := Ext.cell_some hxw d0
              have d1 := Ext.cell_some hxw d1
              have d2 := Ext.cell_some hxw d2
              clear hj
              go_simp
              try go_bits
              first | rfl | (rw [if_pos (by omega), if_pos (by omega)]; go_simp; rfl) | (rw [if_pos (by omega)]; go_simp; rfl) | skip
            · have d0 := Ext.cell_some hxw d0
              have d1 := Ext.cell_some hxw d1
              have d2 := Ext.cell_some hxw d2
              clear hj
              go_simp
              try go_bits
              first | rfl | (rw [if_pos (by omega), if_pos (by omega)]; go_simp; rfl) | (rw [if_pos (by omega)]; go_simp; rfl) | skip
            · have d0 := Ext.cell_some hxw d0
              have d1 := Ext.cell_some hxw d1
              have d2 := Ext.cell_some hxw d2
              clear hj
              go_simp
              try go_bits
              first | rfl | (rw [if_pos (by omega), if_pos (by omega)]; go_simp; rfl) | (rw [if_pos (by omega)]; go_simp; rfl) | skip
            · have d0 := Ext.cell_some hxw d0
              have d1 := Ext.cell_some hxw d1
              have d2 := Ext.cell_some hxw d2
              clear hj
              go_simp
              try go_bits
              first | rfl | (rw [if_pos (by omega), if_pos (by omega)]; go_simp; rfl) | (rw [if_pos (by omega)]; go_simp; rfl) | skip
            · have d0 := Ext.cell_some hxw d0
              have d1 := Ext.cell_some hxw d1
              have d2 := Ext.cell_some hxw d2
              clear hj
              go_simp
              try go_bits
              first | rfl | (rw [if_pos (by omega), if_pos (by omega)]; go_simp; rfl) | (rw [if_pos (by omega)]; go_simp; rfl) | skip
            · have d0 := Ext.cell_some hxw d0
              have d1 := Ext.cell_some hxw d1
              have d2 := Ext.cell_some hxw d2
              clear hj
              go_simp
              try go_bits
              first | rfl | (rw [if_pos (by omega), if_pos (by omega)]; go_simp; rfl) | (rw [if_pos (by omega)]; go_simp; rfl) | skip
            · have d0 := Ext.cell_some hxw d0
              have d1 := Ext.cell_some hxw d1
              have d2 := Ext.cell_some hxw d2
              clear hj
              go_simp
              try go_bits
              first | rfl | (rw [if_pos (by omega), if_pos (by omega)]; go_simp; rfl) | (rw [if_pos (by omega)]; go_simp; rfl) | skip
            · have d0 := Ext.cell_some hxw d0
              have d1 := Ext.cell_some hxw d1
              have d2 := Ext.cell_some hxw d2
              clear hj
              go_simp
              try go_bits
              first | rfl | (rw [if_pos (by omega), if_pos (by omega)]; go_simp; rfl) | (rw [if_pos (by omega)]; go_simp; rfl) | skip
            · have d0 := Ext.cell_some hxw d0
              have d1 := Ext.cell_some hxw d1
              have d2 := Ext.cell_some hxw d2
              clear hj
              go_simp
              try go_bits
              first | rfl | (rw [if_pos (by omega), if_pos (by omega)]; go_simp; rfl) | (rw [if_pos (by omega)]; go_simp; rfl) | skip
            · have d0 := Ext.cell_some hxw d0
              have d1 := Ext.cell_some hxw d1
              have d2 := Ext.cell_some hxw d2
              clear hj
              go_simp
              try go_bits
              first | rfl | (rw [if_pos (by omega), if_pos (by omega)]; go_simp; rfl) | (rw [if_pos (by omega)]; go_simp; rfl) | skip
            · have d0 := Ext.cell_some hxw d0
              have d1 := Ext.cell_some hxw d1
              have d2 := Ext.cell_some hxw d2
              clear hj
              go_simp
              try go_bits
              first | rfl | (rw [if_pos (by omega), if_pos (by omega)]; go_simp; rfl) | (rw [if_pos (by omega)]; go_simp; rfl) | skip
            · have d0 := Ext.cell_some hxw d0
              have d1 := Ext.cell_some hxw d1
              have d2 := Ext.cell_some hxw d2
              clear hj
              go_simp
              try go_bits
              first | rfl | (rw [if_pos (by omega), if_pos (by omega)]; go_simp; rfl) | (rw [if_pos (by omega)]; go_simp; rfl) | skip
            · have d0 := Ext.cell_some hxw d0
              have d1 := Ext.cell_some hxw d1
              have d2 := Ext.cell_some hxw d2
              clear hj
              go_simp
              try go_bits
              first | rfl | (rw [if_pos (by omega), if_pos (by omega)]; go_simp; rfl) | (rw [if_pos (by omega)]; go_simp; rfl) | skip
            · have d0 := Ext.cell_some hxw d0
              have d1 := Ext.cell_some hxw d1
              have d2 := Ext.cell_some hxw d2
              clear hj
              go_simp
              try go_bits
              first | rfl | (rw [if_pos (by omega), if_pos (by omega)]; go_simp; rfl) | (rw [if_pos (by omega)]; go_simp; rfl) | skip
            · have d0 := Ext.cell_some hxw d0
              have d1 := Ext.cell_some hxw d1
              have d2 := Ext.cell_some hxw d2
              clear hj
              go_simp
              try go_bits
              first | rfl | (rw [if_pos (by omega), if_pos (by omega)]; go_simp; rfl) | (rw [if_pos (by omega)]; go_simp; rfl) | skip
            · have d0 := Ext.cell_some hxw d0
              have d1 := Ext.cell_some hxw d1
              have d2 := Ext.cell_some hxw d2
              clear hj
              go_simp
              try go_bits
              first | rfl | (rw [if_pos (by omega), if_pos (by omega)]; go_simp; rfl) | (rw [if_pos (by omega)]; go_simp; rfl) | skip
            · have d0 := Ext.cell_some hxw d0
              have d1 := Ext.cell_some hxw d1
              have d2 := Ext.cell_some hxw d2
              clear hj
              go_simp
              try go_bits
              first | rfl | (rw [if_pos (by omega), if_pos (by omega)]; go_simp; rfl) | (rw [if_pos (by omega)]; go_simp; rfl) | skip
            · have d0 := Ext.cell_some hxw d0
              have d1 := Ext.cell_some hxw d1
              have d2 := Ext.cell_some hxw d2
              clear hj
              go_simp
              try go_bits
              first | rfl | (rw [if_pos (by omega), if_pos (by omega)]; go_simp; rfl) | (rw [if_pos (by omega)]; go_simp; rfl) | skip
            · have d0 := Ext.cell_some hxw d0
              have d1 := Ext.cell_some hxw d1
              have d2 := Ext.cell_some hxw d2
              clear hj
              go_simp
              try go_bits
              first | rfl | (rw [if_pos (by omega), if_pos (by omega)]; go_simp; rfl) | (rw [if_pos (by omega)]; go_simp; rfl) | skip
            · have d0 := Ext.cell_some hxw d0
              have d1 := Ext.cell_some hxw d1
              have d2 := Ext.cell_some hxw d2
              clear hj
              go_simp
              try go_bits
              first | rfl | (rw [if_pos (by omega), if_pos (by omega)]; go_simp; rfl) | (rw [if_pos (by omega)]; go_simp; rfl) | skip
            · have d0 := Ext.cell_some hxw d0
              have d1 := Ext.cell_some hxw d1
              have d2 := Ext.cell_some hxw d2
              clear hj
              go_simp
              try go_bits
              first | rfl | (rw [if_pos (by omega), if_pos (by omega)]; go_simp; rfl) | (rw [if_pos (by omega)]; go_simp; rfl) | skip
            · have d0 := Ext.cell_some hxw d0
              have d1 := Ext.cell_some hxw d1
              have d2 := Ext.cell_some hxw d2
              clear hj
              go_simp
              try go_bits
              first | rfl | (rw [if_pos (by omega), if_pos (by omega)]; go_simp; rfl) | (rw [if_pos (by omega)]; go_simp; rfl) | skip
            · have d0 := Ext.cell_some hxw d0
              have d1 := Ext.cell_some hxw d1
              have d2 := Ext.cell_some hxw d2
              clear hj
              go_simp
              try go_bits
              first | rfl | (rw [if_pos (by omega), if_pos (by omega)]; go_simp; rfl) | (rw [if_pos (by omega)]; go_simp; rfl) | skip
            · have d0 := Ext.cell_some hxw d0
              have d1 := Ext.cell_some hxw d1
              have d2 := Ext.cell_some hxw d2
              clear hj
              go_simp
              try go_bits
              first | rfl | (rw [if_pos (by omega), if_pos (by omega)]; go_simp; rfl) | (rw [if_pos (by omega)]; go_simp; rfl) | skip
          case' hx5_17_p =>
            intro vs w5 hx5 hk
            clear hk
            replace d0 := Ext.cell_some hx5 d0
            replace d1 := Ext.cell_some hx5 d1
            replace d2 := Ext.cell_some hx5 d2
            replace bo := Blk.ext bo hx5
            replace hxs := Ext.trans hxs hx5
            go_simp
            clear hx5 d0 d1 d2
            go_wp2
            go_roundw
            case rel => exact ⟨j + 1, by omega, by omega, by go_num, hno3.succ HGN.out, hxs, bo⟩
            case measure => simp [intOf]; omega
        | true => cases tC : (X.toList == Y.toList) with
        | false =>
          have hGn : twinG n o (wordsL 2 m) k j = none := by rw [HP.out.1, HP.out.2.1]; simp_all
          have HGN := Lib.hid hGn
          clear hGn
          go_wp2
          refine wp_region_inv (by kernel_rfl) (.known ?hx5_18_v0 :: .known ?hx5_18_v1 :: .known ?hx5_18_v2 :: .known ?hx5_18_v3 :: .known ?hx5_18_v4 :: .known ?hx5_18_v5 :: .known ?hx5_18_v6 :: .known ?hx5_18_v7 :: .known ?hx5_18_v8 :: .known ?hx5_18_v9 :: .known ?hx5_18_v10 :: .known ?hx5_18_v11 :: .known ?hx5_18_v12 :: .known ?hx5_18_v13 :: .known ?hx5_18_v14 :: .known ?hx5_18_v15 :: .known ?hx5_18_v16 :: .known ?hx5_18_v17 :: .known ?hx5_18_v18 :: .known ?hx5_18_v19 :: .known ?hx5_18_v20 :: .known ?hx5_18_v21 :: .known ?hx5_18_v22 :: .known ?hx5_18_v23 :: .known ?hx5_18_v24 :: .known (.string X) :: .known ?hx5_18_v26 :: .known ?hx5_18_v27 :: .known (.string Y) :: .known ?hx5_18_v29 :: .known ?hx5_18_v30 :: []) rfl (by kernel_rfl) ?hx5_18_s ?hx5_18_p
          case hx5_18_s =>
            intro vs
            refine ⟨fun w' hxw hj => ?_, fun w' hxw hj => ?_, fun w' hxw hj => ?_, fun w' hxw hj => ?_, fun w' hxw hj => ?_, fun w' hxw hj => ?_, fun w' hxw hj => ?_, fun w' hxw hj => ?_, fun w' hxw hj => ?_, fun w' hxw hj => ?_, fun w' hxw hj => ?_, fun w' hxw hj => ?_, fun w' hxw hj => ?_, fun w' hxw hj => ?_, fun w' hxw hj => ?_, fun w' hxw hj => ?_, fun w' hxw hj => ?_, fun w' hxw hj => ?_, fun w' hxw hj => ?_, fun w' hxw hj => ?_, fun w' hxw hj => ?_, fun w' hxw hj => ?_, fun w' hxw hj => ?_, fun w' hxw hj => ?_, fun w' hxw hj => ?_, fun w' hxw hj => ?_, fun w' hxw hj => ?_, fun w' hxw hj => ?_, fun w' hxw hj => ?_, fun w' hxw hj => ?_, fun w' hxw hj => ?_, trivial⟩
            · have d0 := Ext.cell_some hxw d0
              have d1 := Ext.cell_some hxw d1
              have d2 := Ext.cell_some hxw d2
              clear hj
              go_simp
              try go_bits
              first | rfl | (rw [if_pos (by omega), if_pos (by omega)]; go_simp; rfl) | (rw [if_pos (by omega)]; go_simp; rfl) | skip
            · have d0 := Ext.cell_some hxw d0
              have d1 := Ext.cell_some hxw d1
              have d2 := Ext.cell_some hxw d2
              clear hj
              go_simp
              try go_bits
              first | rfl | (rw [if_pos (by omega), if_pos (by omega)]; go_simp; rfl) | (rw [if_pos (by omega)]; go_simp; rfl) | skip
            · have d0 := Ext.cell_some hxw d0
              have d1 := Ext.cell_some hxw d1
              have d2 := Ext.cell_some hxw d2
              clear hj
              go_simp
              try go_bits
              first | rfl | (rw [if_pos (by omega), if_pos (by omega)]; go_simp; rfl) | (rw [if_pos (by omega)]; go_simp; rfl) | skip
            · have d0 := Ext.cell_some hxw d0
              have d1 := Ext.cell_some hxw d1
              have d2 := Ext.cell_some hxw d2
              clear hj
              go_simp
              try go_bits
              first | rfl | (rw [if_pos (by omega), if_pos (by omega)]; go_simp; rfl) | (rw [if_pos (by omega)]; go_simp; rfl) | skip
            · have d0 := Ext.cell_some hxw d0
              have d1 := Ext.cell_some hxw d1
              have d2 := Ext.cell_some hxw d2
              clear hj
              go_simp
              try go_bits
              first | rfl | (rw [if_pos (by omega), if_pos (by omega)]; go_simp; rfl) | (rw [if_pos (by omega)]; go_simp; rfl) | skip
            · have d0 := Ext.cell_some hxw d0
              have d1 := Ext.cell_some hxw d1
              have d2 := Ext.cell_some hxw d2
              clear hj
              go_simp
              try go_bits
              first | rfl | (rw [if_pos (by omega), if_pos (by omega)]; go_simp; rfl) | (rw [if_pos (by omega)]; go_simp; rfl) | skip
            · have d0 := Ext.cell_some hxw d0
              have d1 := Ext.cell_some hxw d1
              have d2 := Ext.cell_some hxw d2
              clear hj
              go_simp
              try go_bits
              first | rfl | (rw [if_pos (by omega), if_pos (by omega)]; go_simp; rfl) | (rw [if_pos (by omega)]; go_simp; rfl) | skip
            · have d0 := Ext.cell_some hxw d0
              have d1 := Ext.cell_some hxw d1
              have d2 := Ext.cell_some hxw d2
              clear hj
              go_simp
              try go_bits
              first | rfl | (rw [if_pos (by omega), if_pos (by omega)]; go_simp; rfl) | (rw [if_pos (by omega)]; go_simp; rfl) | skip
            · have d0 := Ext.cell_some hxw d0
              have d1 := Ext.cell_some hxw d1
              have d2 := Ext.cell_some hxw d2
              clear hj
              go_simp
              try go_bits
              first | rfl | (rw [if_pos (by omega), if_pos (by omega)]; go_simp; rfl) | (rw [if_pos (by omega)]; go_simp; rfl) | skip
            · have d0 := Ext.cell_some hxw d0
              have d1 := Ext.cell_some hxw d1
              have d2 := Ext.cell_some hxw d2
              clear hj
              go_simp
              try go_bits
              first | rfl | (rw [if_pos (by omega), if_pos (by omega)]; go_simp; rfl) | (rw [if_pos (by omega)]; go_simp; rfl) | skip
            · have d0 := Ext.cell_some hxw d0
              have d1 := Ext.cell_some hxw d1
              have d2 := Ext.cell_some hxw d2
              clear hj
              go_simp
              try go_bits
              first | rfl | (rw [if_pos (by omega), if_pos (by omega)]; go_simp; rfl) | (rw [if_pos (by omega)]; go_simp; rfl) | skip
            · have d0 := Ext.cell_some hxw d0
              have d1 := Ext.cell_some hxw d1
              have d2 := Ext.cell_some hxw d2
              clear hj
              go_simp
              try go_bits
              first | rfl | (rw [if_pos (by omega), if_pos (by omega)]; go_simp; rfl) | (rw [if_pos (by omega)]; go_simp; rfl) | skip
            · have d0 := Ext.cell_some hxw d0
              have d1 := Ext.cell_some hxw d1
              have d2 := Ext.cell_some hxw d2
              clear hj
              go_simp
              try go_bits
              first | rfl | (rw [if_pos (by omega), if_pos (by omega)]; go_simp; rfl) | (rw [if_pos (by omega)]; go_simp; rfl) | skip
            · have d0 := Ext.cell_some hxw d0
              have d1 := Ext.cell_some hxw d1
              have d2 := Ext.cell_some hxw d2
              clear hj
              go_simp
              try go_bits
              first | rfl | (rw [if_pos (by omega), if_pos (by omega)]; go_simp; rfl) | (rw [if_pos (by omega)]; go_simp; rfl) | skip
            · have d0 := Ext.cell_some hxw d0
              have d1 := Ext.cell_some hxw d1
              have d2 := Ext.cell_some hxw d2
              clear hj
              go_simp
              try go_bits
              first | rfl | (rw [if_pos (by omega), if_pos (by omega)]; go_simp; rfl) | (rw [if_pos (by omega)]; go_simp; rfl) | skip
            · have d0 := Ext.cell_some hxw d0
              have d1 := Ext.cell_some hxw d1
              have d2 := Ext.cell_some hxw d2
              clear hj
              go_simp
              try go_bits
              first | rfl | (rw [if_pos (by omega), if_pos (by omega)]; go_simp; rfl) | (rw [if_pos (by omega)]; go_simp; rfl) | skip
            · have d0 := Ext.cell_some hxw d0
              have d1 := Ext.cell_some hxw d1
              have d2 := Ext.cell_some hxw d2
              clear hj
              go_simp
              try go_bits
              first | rfl | (rw [if_pos (by omega), if_pos (by omega)]; go_simp; rfl) | (rw [if_pos (by omega)]; go_simp; rfl) | skip
            · have d0 := Ext.cell_some hxw d0
              have d1 := Ext.cell_some hxw d1
              have d2 := Ext.cell_some hxw d2
              clear hj
              go_simp
              try go_bits
              first | rfl | (rw [if_pos (by omega), if_pos (by omega)]; go_simp; rfl) | (rw [if_pos (by omega)]; go_simp; rfl) | skip
            · have d0 := Ext.cell_some hxw d0
              have d1 := Ext.cell_some hxw d1
              have d2 := Ext.cell_some hxw d2
              clear hj
              go_simp
              try go_bits
              first | rfl | (rw [if_pos (by omega), if_pos (by omega)]; go_simp; rfl) | (rw [if_pos (by omega)]; go_simp; rfl) | skip
            · have d0 := Ext.cell_some hxw d0
              have d1 := Ext.cell_some hxw d1
              have d2 := Ext.cell_some hxw d2
              clear hj
              go_simp
              try go_bits
              first | rfl | (rw [if_pos (by omega), if_pos (by omega)]; go_simp; rfl) | (rw [if_pos (by omega)]; go_simp; rfl) | skip
            · have d0 := Ext.cell_some hxw d0
              have d1 := Ext.cell_some hxw d1
              have d2 := Ext.cell_some hxw d2
              clear hj
              go_simp
              try go_bits
              first | rfl | (rw [if_pos (by omega), if_pos (by omega)]; go_simp; rfl) | (rw [if_pos (by omega)]; go_simp; rfl) | skip
            · have d0 := Ext.cell_some hxw d0
              have d1 := Ext.cell_some hxw d1
              have d2 := Ext.cell_some hxw d2
              clear hj
              go_simp
              try go_bits
              first | rfl | (rw [if_pos (by omega), if_pos (by omega)]; go_simp; rfl) | (rw [if_pos (by omega)]; go_simp; rfl) | skip
            · have d0 := Ext.cell_some hxw d0
              have d1 := Ext.cell_some hxw d1
              have d2 := Ext.cell_some hxw d2
              clear hj
              go_simp
              try go_bits
              first | rfl | (rw [if_pos (by omega), if_pos (by omega)]; go_simp; rfl) | (rw [if_pos (by omega)]; go_simp; rfl) | skip
            · have d0 := Ext.cell_some hxw d0
              have d1 := Ext.cell_some hxw d1
              have d2 := Ext.cell_some hxw d2
              clear hj
              go_simp
              try go_bits
              first | rfl | (rw [if_pos (by omega), if_pos (by omega)]; go_simp; rfl) | (rw [if_pos (by omega)]; go_simp; rfl) | skip
            · have d0 := Ext.cell_some hxw d0
              have d1 := Ext.cell_some hxw d1
              have d2 := Ext.cell_some hxw d2
              clear hj
              go_simp
              try go_bits
              first | rfl | (rw [if_pos (by omega), if_pos (by omega)]; go_simp; rfl) | (rw [if_pos (by omega)]; go_simp; rfl) | skip
            · have d0 := Ext.cell_some hxw d0
              have d1 := Ext.cell_some hxw d1
              have d2 := Ext.cell_some hxw d2
              clear hj
              go_simp
              try go_bits
              exact HU.out.2.2.2.2.1 _
            · have d0 := Ext.cell_some hxw d0
              have d1 := Ext.cell_some hxw d1
              have d2 := Ext.cell_some hxw d2
              clear hj
              go_simp
              try go_bits
              first | rfl | (rw [if_pos (by omega), if_pos (by omega)]; go_simp; rfl) | (rw [if_pos (by omega)]; go_simp; rfl) | skip
            · have d0 := Ext.cell_some hxw d0
              have d1 := Ext.cell_some hxw d1
              have d2 := Ext.cell_some hxw d2
              clear hj
              go_simp
              try go_bits
              first | rfl | (rw [if_pos (by omega), if_pos (by omega)]; go_simp; rfl) | (rw [if_pos (by omega)]; go_simp; rfl) | skip
            · have d0 := Ext.cell_some hxw d0
              have d1 := Ext.cell_some hxw d1
              have d2 := Ext.cell_some hxw d2
              clear hj
              go_simp
              try go_bits
              exact HP.out.2.2.1 _
            · have d0 := Ext.cell_some hxw d0
              have d1 := Ext.cell_some hxw d1
              have d2 := Ext.cell_some hxw d2
              clear hj
              go_simp
              try go_bits
              first | rfl | (rw [if_pos (by omega), if_pos (by omega)]; go_simp; rfl) | (rw [if_pos (by omega)]; go_simp; rfl) | skip
            · have d0 := Ext.cell_some hxw d0
              have d1 := Ext.cell_some hxw d1
              have d2 := Ext.cell_some hxw d2
              clear hj
              go_simp
              try go_bits
              first | rfl | (rw [if_pos (by omega), if_pos (by omega)]; go_simp; rfl) | (rw [if_pos (by omega)]; go_simp; rfl) | skip
          case' hx5_18_p =>
            intro vs w5 hx5 hk
            clear hk
            replace d0 := Ext.cell_some hx5 d0
            replace d1 := Ext.cell_some hx5 d1
            replace d2 := Ext.cell_some hx5 d2
            replace bo := Blk.ext bo hx5
            replace hxs := Ext.trans hxs hx5
            go_simp
            clear hx5 d0 d1 d2
            go_wp2
            go_roundw
            case rel => exact ⟨j + 1, by omega, by omega, by go_num, hno3.succ HGN.out, hxs, bo⟩
            case measure => simp [intOf]; omega
        | true =>
          have hGn : twinG n o (wordsL 2 m) k j = some (u, v) := by rw [HP.out.1, HP.out.2.1]; simp_all
          have hhit : r = some (u, v) := by
            rw [HR.out.1]
            exact firstOf_hit (x := j) (by omega) hno3 hGn
          have HH := Lib.hid hhit
          clear hGn hhit
          go_wp2
          refine wp_region_inv (by kernel_rfl) (.known ?hx5_19_v0 :: .known ?hx5_19_v1 :: .known ?hx5_19_v2 :: .known ?hx5_19_v3 :: .known ?hx5_19_v4 :: .known ?hx5_19_v5 :: .known ?hx5_19_v6 :: .known ?hx5_19_v7 :: .known ?hx5_19_v8 :: .known ?hx5_19_v9 :: .known ?hx5_19_v10 :: .known ?hx5_19_v11 :: .known ?hx5_19_v12 :: .known ?hx5_19_v13 :: .known ?hx5_19_v14 :: .known ?hx5_19_v15 :: .known ?hx5_19_v16 :: .known ?hx5_19_v17 :: .known ?hx5_19_v18 :: .known ?hx5_19_v19 :: .known ?hx5_19_v20 :: .known ?hx5_19_v21 :: .known ?hx5_19_v22 :: .known ?hx5_19_v23 :: .known ?hx5_19_v24 :: .known (.string X) :: .known ?hx5_19_v26 :: .known ?hx5_19_v27 :: .known (.string Y) :: .known ?hx5_19_v29 :: .known ?hx5_19_v30 :: []) rfl (by kernel_rfl) ?hx5_19_s ?hx5_19_p
          case hx5_19_s =>
            intro vs
            refine ⟨fun w' hxw hj => ?_, fun w' hxw hj => ?_, fun w' hxw hj => ?_, fun w' hxw hj => ?_, fun w' hxw hj => ?_, fun w' hxw hj => ?_, fun w' hxw hj => ?_, fun w' hxw hj => ?_, fun w' hxw hj => ?_, fun w' hxw hj => ?_, fun w' hxw hj => ?_, fun w' hxw hj => ?_, fun w' hxw hj => ?_, fun w' hxw hj => ?_, fun w' hxw hj => ?_, fun w' hxw hj => ?_, fun w' hxw hj => ?_, fun w' hxw hj => ?_, fun w' hxw hj => ?_, fun w' hxw hj => ?_, fun w' hxw hj => ?_, fun w' hxw hj => ?_, fun w' hxw hj => ?_, fun w' hxw hj => ?_, fun w' hxw hj => ?_, fun w' hxw hj => ?_, fun w' hxw hj => ?_, fun w' hxw hj => ?_, fun w' hxw hj => ?_, fun w' hxw hj => ?_, fun w' hxw hj => ?_, trivial⟩
            · have d0 := Ext.cell_some hxw d0
              have d1 := Ext.cell_some hxw d1
              have d2 := Ext.cell_some hxw d2
              clear hj
              go_simp
              try go_bits
              first | rfl | (rw [if_pos (by omega), if_pos (by omega)]; go_simp; rfl) | (rw [if_pos (by omega)]; go_simp; rfl) | skip
            · have d0 := Ext.cell_some hxw d0
              have d1 := Ext.cell_some hxw d1
              have d2 := Ext.cell_some hxw d2
              clear hj
              go_simp
              try go_bits
              first | rfl | (rw [if_pos (by omega), if_pos (by omega)]; go_simp; rfl) | (rw [if_pos (by omega)]; go_simp; rfl) | skip
            · have d0 := Ext.cell_some hxw d0
              have d1 := Ext.cell_some hxw d1
              have d2 := Ext.cell_some hxw d2
              clear hj
              go_simp
              try go_bits
              first | rfl | (rw [if_pos (by omega), if_pos (by omega)]; go_simp; rfl) | (rw [if_pos (by omega)]; go_simp; rfl) | skip
            · have d0 := Ext.cell_some hxw d0
              have d1 := Ext.cell_some hxw d1
              have d2 := Ext.cell_some hxw d2
              clear hj
              go_simp
              try go_bits
              first | rfl | (rw [if_pos (by omega), if_pos (by omega)]; go_simp; rfl) | (rw [if_pos (by omega)]; go_simp; rfl) | skip
            · have d0 := Ext.cell_some hxw d0
              have d1 := Ext.cell_some hxw d1
              have d2 := Ext.cell_some hxw d2
              clear hj
              go_simp
              try go_bits
              first | rfl | (rw [if_pos (by omega), if_pos (by omega)]; go_simp; rfl) | (rw [if_pos (by omega)]; go_simp; rfl) | skip
            · have d0 := Ext.cell_some hxw d0
              have d1 := Ext.cell_some hxw d1
              have d2 := Ext.cell_some hxw d2
              clear hj
              go_simp
              try go_bits
              first | rfl | (rw [if_pos (by omega), if_pos (by omega)]; go_simp; rfl) | (rw [if_pos (by omega)]; go_simp; rfl) | skip
            · have d0 := Ext.cell_some hxw d0
              have d1 := Ext.cell_some hxw d1
              have d2 := Ext.cell_some hxw d2
              clear hj
              go_simp
              try go_bits
              first | rfl | (rw [if_pos (by omega), if_pos (by omega)]; go_simp; rfl) | (rw [if_pos (by omega)]; go_simp; rfl) | skip
            · have d0 := Ext.cell_some hxw d0
              have d1 := Ext.cell_some hxw d1
              have d2 := Ext.cell_some hxw d2
              clear hj
              go_simp
              try go_bits
              first | rfl | (rw [if_pos (by omega), if_pos (by omega)]; go_simp; rfl) | (rw [if_pos (by omega)]; go_simp; rfl) | skip
            · have d0 := Ext.cell_some hxw d0
              have d1 := Ext.cell_some hxw d1
              have d2 := Ext.cell_some hxw d2
              clear hj
              go_simp
              try go_bits
              first | rfl | (rw [if_pos (by omega), if_pos (by omega)]; go_simp; rfl) | (rw [if_pos (by omega)]; go_simp; rfl) | skip
            · have d0 := Ext.cell_some hxw d0
              have d1 := Ext.cell_some hxw d1
              have d2 := Ext.cell_some hxw d2
              clear hj
              go_simp
              try go_bits
              first | rfl | (rw [if_pos (by omega), if_pos (by omega)]; go_simp; rfl) | (rw [if_pos (by omega)]; go_simp; rfl) | skip
            · have d0 := Ext.cell_some hxw d0
              have d1 := Ext.cell_some hxw d1
              have d2 := Ext.cell_some hxw d2
              clear hj
              go_simp
              try go_bits
              first | rfl | (rw [if_pos (by omega), if_pos (by omega)]; go_simp; rfl) | (rw [if_pos (by omega)]; go_simp; rfl) | skip
            · have d0 := Ext.cell_some hxw d0
              have d1 := Ext.cell_some hxw d1
              have d2 := Ext.cell_some hxw d2
              clear hj
              go_simp
              try go_bits
              first | rfl | (rw [if_pos (by omega), if_pos (by omega)]; go_simp; rfl) | (rw [if_pos (by omega)]; go_simp; rfl) | skip
            · have d0 := Ext.cell_some hxw d0
              have d1 := Ext.cell_some hxw d1
              have d2 := Ext.cell_some hxw d2
              clear hj
              go_simp
              try go_bits
              first | rfl | (rw [if_pos (by omega), if_pos (by omega)]; go_simp; rfl) | (rw [if_pos (by omega)]; go_simp; rfl) | skip
            · have d0 := Ext.cell_some hxw d0
              have d1 := Ext.cell_some hxw d1
              have d2 := Ext.cell_some hxw d2
              clear hj
              go_simp
              try go_bits
              first | rfl | (rw [if_pos (by omega), if_pos (by omega)]; go_simp; rfl) | (rw [if_pos (by omega)]; go_simp; rfl) | skip
            · have d0 := Ext.cell_some hxw d0
              have d1 := Ext.cell_some hxw d1
              have d2 := Ext.cell_some hxw d2
              clear hj
              go_simp
              try go_bits
              first | rfl | (rw [if_pos (by omega), if_pos (by omega)]; go_simp; rfl) | (rw [if_pos (by omega)]; go_simp; rfl) | skip
            · have d0 := Ext.cell_some hxw d0
              have d1 := Ext.cell_some hxw d1
              have d2 := Ext.cell_some hxw d2
              clear hj
              go_simp
              try go_bits
              first | rfl | (rw [if_pos (by omega), if_pos (by omega)]; go_simp; rfl) | (rw [if_pos (by omega)]; go_simp; rfl) | skip
            · have d0 := Ext.cell_some hxw d0
              have d1 := Ext.cell_some hxw d1
              have d2 := Ext.cell_some hxw d2
              clear hj
              go_simp
              try go_bits
              first | rfl | (rw [if_pos (by omega), if_pos (by omega)]; go_simp; rfl) | (rw [if_pos (by omega)]; go_simp; rfl) | skip
            · have d0 := Ext.cell_some hxw d0
              have d1 := Ext.cell_some hxw d1
              have d2 := Ext.cell_some hxw d2
              clear hj
              go_simp
              try go_bits
              first | rfl | (rw [if_pos (by omega), if_pos (by omega)]; go_simp; rfl) | (rw [if_pos (by omega)]; go_simp; rfl) | skip
            · have d0 := Ext.cell_some hxw d0
              have d1 := Ext.cell_some hxw d1
              have d2 := Ext.cell_some hxw d2
              clear hj
              go_simp
              try go_bits
              first | rfl | (rw [if_pos (by omega), if_pos (by omega)]; go_simp; rfl) | (rw [if_pos (by omega)]; go_simp; rfl) | skip
            · have d0 := Ext.cell_some hxw d0
              have d1 := Ext.cell_some hxw d1
              have d2 := Ext.cell_some hxw d2
              clear hj
              go_simp
              try go_bits
              first | rfl | (rw [if_pos (by omega), if_pos (by omega)]; go_simp; rfl) | (rw [if_pos (by omega)]; go_simp; rfl) | skip
            · have d0 := Ext.cell_some hxw d0
              have d1 := Ext.cell_some hxw d1
              have d2 := Ext.cell_some hxw d2
              clear hj
              go_simp
              try go_bits
              first | rfl | (rw [if_pos (by omega), if_pos (by omega)]; go_simp; rfl) | (rw [if_pos (by omega)]; go_simp; rfl) | skip
            · have d0 := Ext.cell_some hxw d0
              have d1 := Ext.cell_some hxw d1
              have d2 := Ext.cell_some hxw d2
              clear hj
              go_simp
              try go_bits
              first | rfl | (rw [if_pos (by omega), if_pos (by omega)]; go_simp; rfl) | (rw [if_pos (by omega)]; go_simp; rfl) | skip
            · have d0 := Ext.cell_some hxw d0
              have d1 := Ext.cell_some hxw d1
              have d2 := Ext.cell_some hxw d2
              clear hj
              go_simp
              try go_bits
              first | rfl | (rw [if_pos (by omega), if_pos (by omega)]; go_simp; rfl) | (rw [if_pos (by omega)]; go_simp; rfl) | skip
            · have d0 := Ext.cell_some hxw d0
              have d1 := Ext.cell_some hxw d1
              have d2 := Ext.cell_some hxw d2
              clear hj
              go_simp
              try go_bits
              first | rfl | (rw [if_pos (by omega), if_pos (by omega)]; go_simp; rfl) | (rw [if_pos (by omega)]; go_simp; rfl) | skip
            · have d0 := Ext.cell_some hxw d0
              have d1 := Ext.cell_some hxw d1
              have d2 := Ext.cell_some hxw d2
              clear hj
              go_simp
              try go_bits
              first | rfl | (rw [if_pos (by omega), if_pos (by omega)]; go_simp; rfl) | (rw [if_pos (by omega)]; go_simp; rfl) | skip
            · have d0 := Ext.cell_some hxw d0
              have d1 := Ext.cell_some hxw d1
              have d2 := Ext.cell_some hxw d2
              clear hj
              go_simp
              try go_bits
              exact HU.out.2.2.2.2.1 _
            · have d0 := Ext.cell_some hxw d0
              have d1 := Ext.cell_some hxw d1
              have d2 := Ext.cell_some hxw d2
              clear hj
              go_simp
              try go_bits
              first | rfl | (rw [if_pos (by omega), if_pos (by omega)]; go_simp; rfl) | (rw [if_pos (by omega)]; go_simp; rfl) | skip
            · have d0 := Ext.cell_some hxw d0
              have d1 := Ext.cell_some hxw d1
              have d2 := Ext.cell_some hxw d2
              clear hj
              go_simp
              try go_bits
              first | rfl | (rw [if_pos (by omega), if_pos (by omega)]; go_simp; rfl) | (rw [if_pos (by omega)]; go_simp; rfl) | skip
            · have d0 := Ext.cell_some hxw d0
              have d1 := Ext.cell_some hxw d1
              have d2 := Ext.cell_some hxw d2
              clear hj
              go_simp
              try go_bits
              exact HP.out.2.2.1 _
            · have d0 := Ext.cell_some hxw d0
              have d1 := Ext.cell_some hxw d1
              have d2 := Ext.cell_some hxw d2
              clear hj
              go_simp
              try go_bits
              first | rfl | (rw [if_pos (by omega), if_pos (by omega)]; go_simp; rfl) | (rw [if_pos (by omega)]; go_simp; rfl) | skip
            · have d0 := Ext.cell_some hxw d0
              have d1 := Ext.cell_some hxw d1
              have d2 := Ext.cell_some hxw d2
              clear hj
              go_simp
              try go_bits
              first | rfl | (rw [if_pos (by omega), if_pos (by omega)]; go_simp; rfl) | (rw [if_pos (by omega)]; go_simp; rfl) | skip
          case' hx5_19_p =>
            intro vs w5 hx5 hk
            clear hk
            replace d0 := Ext.cell_some hx5 d0
            replace d1 := Ext.cell_some hx5 d1
            replace d2 := Ext.cell_some hx5 d2
            replace bo := Blk.ext bo hx5
            replace hxs := Ext.trans hxs hx5
            go_simp
            clear hx5 d0 d1 d2
            go_wp2
            go_ret2
            exact ⟨by rw [HH.out, HP.out.2.2.2]; rfl, hxs⟩
    · have hjV : j = V := by omega
      have hnone : r = none := by
        rw [HR.out.1, ← hjV]
        exact firstOf_none hno3
      have HN := Lib.hid hnone
      clear hnone
      subst hjV
      go_wp2
      go_ret2
      exact ⟨by rw [HN.out]; rfl, hxs⟩
end Go.Proofs.Ytfkdpeifnfpldaa

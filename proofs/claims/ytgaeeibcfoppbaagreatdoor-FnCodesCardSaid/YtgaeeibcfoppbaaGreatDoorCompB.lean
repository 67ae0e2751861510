/- Contract: the reference's ComposeCodes. -/
import Derived.Test.YtgaeeibcfoppbaaGreatDoorPkC
import Derived.Test.YtgaeeibcfoppbaaGreatDoorCompA
namespace Go.Proofs.YtgaeeibcfoppbaaGreatDoor
open Go.RowKit Go.Cm

set_option maxHeartbeats 1000000 in
theorem spec_ComposeCodes_wide (K n m : Nat) (o o' : ByteArray) (w : World) (hc : codeOk K n o = true) (hc' : codeOk K m o' = true) (hf : CodeFit K n o) (hf' : CodeFit K m o')
    (h : wideOk K ((n + m - 1 : Nat) : Int) = false) :
    Calls Tryz.prog 7 #[.agg #[.int .i64 K, .int .i64 n, .string o], .agg #[.int .i64 K, .int .i64 m, .string o']] w fun e w' => e = .returned (.tuple #[.agg #[.int .i64 0, .int .i64 0, .string ⟨#[]⟩], .bool false]) ∧ Ext w w' := by
  have ho : o.size ≤ maxLen := by have := hf.size; have := hf.le; unfold maxLen; omega
  have ho' : o'.size ≤ maxLen := by have := hf'.size; have := hf'.le; unfold maxLen; omega
  have hn1 := hf.n1
  have hn4 := hf.n4
  have hm1 := hf'.n1
  have hm4 := hf'.n4
  have hk2 := hf.k2
  have hk3 := hf.k3
  go_enter Tryz.func7, Tryz.ntmps7
  go_wp2_with fail
  refine (spec_IsCode_any _ _ _ _ ho).mono ?_
  rintro e w1 ⟨rfl, hx⟩
  rw [hc]
  have bo := (show Blk _ w.heap.size #[.int .i64 K, .int .i64 n, .string o] by (repeat (first | (refine Blk.mk' ?_; (simp; done)) | apply Blk.old))).ext hx
  have bo' := (show Blk _ (w.heap.size + 1) #[.int .i64 K, .int .i64 m, .string o'] by (repeat (first | (refine Blk.mk' ?_; (simp; done)) | apply Blk.old))).ext hx
  have br := (show Blk _ (w.heap.size + 1 + 1) #[.int .i64 0, .int .i64 0, .string ⟨#[]⟩] by (repeat (first | (refine Blk.mk' ?_; (simp; done)) | apply Blk.old))).ext hx
  have hx0 := (((Ext.alloc _ _).trans (Ext.alloc _ _)).trans (Ext.alloc _ _)).trans hx
  obtain ⟨d0, d1, d2, -, -, -⟩ := bo'.c3
  clear hx
  go_wp2_with fail
  refine (spec_IsCode_any _ _ _ _ ho').mono ?_
  rintro e w2 ⟨rfl, hx2⟩
  rw [hc']
  replace hx0 := hx0.trans hx2
  replace bo := bo.ext hx2
  replace bo' := bo'.ext hx2
  replace br := br.ext hx2
  clear hx2 d0 d1 d2
  obtain ⟨c0, c1, c2, -, -, -⟩ := bo.c3
  obtain ⟨d0, d1, d2, -, -, -⟩ := bo'.c3
  obtain ⟨r0, r1, r2, f0, f1, f2⟩ := br.c3
  have hsz := br.lt
  have hl0 : w.heap.size < w2.heap.size := bo.lt
  have hl1 : w.heap.size + 1 < w2.heap.size := bo'.lt
  have e1 : ((n + m - 1 : Nat) : Int) = (n : Int) + (m : Int) - 1 := by omega
  by_cases hq : (n : Int) + (m : Int) - 1 ≤ 4
  · have h4 : decide (27 < pw (K : Int) ((n : Int) + (m : Int) - 1)) = true := by
      have hK : K = 2 ∨ K = 3 := by omega
      have h' : ¬ pw (K : Int) ((n : Int) + (m : Int) - 1) ≤ 27 := by
        intro hp
        unfold wideOk at h
        rw [e1] at h
        simp [hp, hq] at h
        omega
      simp; omega
    clear h e1
    go_wp2_with (go_at_call 30; refine (spec_l11Power_any _ _ _ (by omega) (by omega) (by omega) (by omega)).mono ?_; rintro e w' ⟨rfl, rfl⟩)
    refine bodyPost_ret (v := .tuple #[.agg #[.int .i64 0, .int .i64 0, .string ⟨#[]⟩], .bool false]) ?_ rfl ⟨rfl, by (repeat (first | exact hx0 | exact Ext.refl _ | exact Ext.alloc _ _ | refine Ext.alloced ?_ _ | (refine Ext.stored ?_ ?_; rotate_left; (· (first | (show _ ≤ _; omega) | (simp; done) | (simp; omega))))))⟩
    simp [results, Tryz.results7, go_sem, World.cell?_alloc_lt, hsz, r0, r1, r2]
  · clear h e1
    go_wp2
    refine bodyPost_ret (v := .tuple #[.agg #[.int .i64 0, .int .i64 0, .string ⟨#[]⟩], .bool false]) ?_ rfl ⟨rfl, by (repeat (first | exact hx0 | exact Ext.refl _ | exact Ext.alloc _ _ | refine Ext.alloced ?_ _ | (refine Ext.stored ?_ ?_; rotate_left; (· (first | (show _ ≤ _; omega) | (simp; done) | (simp; omega))))))⟩
    simp [results, Tryz.results7, go_sem, World.cell?_alloc_lt, hsz, r0, r1, r2]

set_option maxRecDepth 100000 in
set_option maxHeartbeats 2000000 in
theorem spec_ComposeCodes_yes (K n m q : Nat) (o o' : ByteArray) (w : World) (hc : codeOk K n o = true) (hc' : codeOk K m o' = true) (hf : CodeFit K n o) (hf' : CodeFit K m o')
    (hq : q + 1 = n + m) (h : wideOk K q = true) :
    Calls Tryz.prog 7 #[.agg #[.int .i64 K, .int .i64 n, .string o], .agg #[.int .i64 K, .int .i64 m, .string o']] w fun e w' => e = .returned (.tuple #[.agg #[.int .i64 K, .int .i64 q, .string (mkS ((wordsL K q).map (composeL K m o o')))], .bool true]) ∧ Ext w w' := by
  have ho : o.size ≤ maxLen := by have := hf.size; have := hf.le; unfold maxLen; omega
  have ho' : o'.size ≤ maxLen := by have := hf'.size; have := hf'.le; unfold maxLen; omega
  have hn1 := hf.n1
  have hn4 := hf.n4
  have hm1 := hf'.n1
  have hm4 := hf'.n4
  have hk2 := hf.k2
  have hk3 := hf.k3
  go_enter Tryz.func7, Tryz.ntmps7
  go_wp2_with fail
  refine (spec_IsCode_any _ _ _ _ ho).mono ?_
  rintro e w1 ⟨rfl, hx⟩
  rw [hc]
  have bo := (show Blk _ w.heap.size #[.int .i64 K, .int .i64 n, .string o] by (repeat (first | (refine Blk.mk' ?_; (simp; done)) | apply Blk.old))).ext hx
  have bo' := (show Blk _ (w.heap.size + 1) #[.int .i64 K, .int .i64 m, .string o'] by (repeat (first | (refine Blk.mk' ?_; (simp; done)) | apply Blk.old))).ext hx
  have br := (show Blk _ (w.heap.size + 1 + 1) #[.int .i64 0, .int .i64 0, .string ⟨#[]⟩] by (repeat (first | (refine Blk.mk' ?_; (simp; done)) | apply Blk.old))).ext hx
  have hx0 := (((Ext.alloc _ _).trans (Ext.alloc _ _)).trans (Ext.alloc _ _)).trans hx
  obtain ⟨d0, d1, d2, -, -, -⟩ := bo'.c3
  clear hx
  go_wp2_with fail
  refine (spec_IsCode_any _ _ _ _ ho').mono ?_
  rintro e w2 ⟨rfl, hx2⟩
  rw [hc']
  replace hx0 := hx0.trans hx2
  replace bo := bo.ext hx2
  replace bo' := bo'.ext hx2
  replace br := br.ext hx2
  clear hx2 d0 d1 d2
  obtain ⟨c0, c1, c2, -, -, -⟩ := bo.c3
  obtain ⟨d0, d1, d2, -, -, -⟩ := bo'.c3
  obtain ⟨r0, r1, r2, f0, f1, f2⟩ := br.c3
  have hsz := br.lt
  have hl0 : w.heap.size < w2.heap.size := bo.lt
  have hl1 : w.heap.size + 1 < w2.heap.size := bo'.lt
  obtain ⟨hL, h1, h4, h27⟩ := wideOk_yes h
  have t4 : decide (27 < pw (K : Int) q) = false := by simpa using h27
  have hN27 : K ^ q ≤ 27 := by rw [pw_nat] at h27; omega
  have hwl : (scells (wordsL K q)).length = K ^ q := by simp [scells, wordsL]
  have hNp : 0 < K ^ q := Nat.pow_pos (by omega)
  obtain ⟨N, hN⟩ : ∃ N, N = K ^ q := ⟨_, rfl⟩
  rw [← hN] at hwl hNp hN27
  have HWL := Lib.hid hwl
  have e1 : (n : Int) + (m : Int) - 1 = q := by omega
  clear hN hwl h hL h27
  go_wp2_with ((try rw [e1]); go_at_call 30; refine (spec_l11Power_any _ _ _ (by omega) (by omega) (by omega) (by omega)).mono ?_; rintro e w' ⟨rfl, rfl⟩)
  refine (spec_l2All_any K q _ (by omega) (by omega) (by omega)).mono ?_
  rintro e w3 ⟨v9, rfl, hw, hx⟩
  have hsh := hw.shape
  rw [HWL.out] at hsh
  rcases hsh with ⟨_, hnil⟩ | ⟨g, cap, rfl, hg, _, _, _⟩
  · exfalso
    have := HWL.out
    rw [hnil] at this
    simp at this
    omega
  obtain ⟨z, hz⟩ : ∃ z, z = w2.heap.size := ⟨_, rfl⟩
  have bz := (show Blk _ z #[.int .i64 K, .int .i64 q, .string ⟨#[]⟩] by rw [hz]; exact Blk.mk' rfl).ext hx
  replace bo := bo.old.ext hx
  replace bo' := bo'.old.ext hx
  replace br := br.old.ext hx
  have hxw := Ext.trans (Ext.alloced hx0 _) hx
  have hg' : z < g := by simp at hg; omega
  rw [← hz] at hsz hl0 hl1 ⊢
  have hw' : Own w3 (z + 1) 9 (.slice (some ⟨g, 0, none⟩) N cap) (scells (wordsL K q)) := by rw [hz]; simpa using hw
  clear hw hg hx hx0 c0 c1 c2 d0 d1 d2 r0 r1 r2 f0 f1 f2 hz
  go_wp2
  go_loopw [8] (fun i wr => ∃ k : Nat, k ≤ N ∧ i = .int .i64 k ∧ w3.grownBy wr (some z) ∧ Ext w wr ∧ Blk wr z #[.int .i64 K, .int .i64 q, .string (mkS (((wordsL K q).take k).map (composeL K m o o')))]) (fun i _ => N - (intOf i).toNat)
  case atStart => exact ⟨0, by omega, rfl, GB.refl _ _, hxw, bz⟩
  case round =>
    obtain ⟨k, hk, rfl, hgb, hx, bz'⟩ := hrel
    have ao := GB.blk hgb bo (by simp; omega)
    have ao' := GB.blk hgb bo' (by simp; omega)
    have ar := GB.blk hgb br (by simp; omega)
    obtain ⟨c0, c1, c2, -, -, -⟩ := ao.c3
    obtain ⟨d0, d1, d2, -, -, -⟩ := ao'.c3
    obtain ⟨r0, r1, r2, f0, f1, f2⟩ := ar.c3
    by_cases hlt : k < N
    · have hlw : k < (wordsL K q).length := by have := HWL.out; simp [scells] at this; omega
      have hwc : wr.cell? ⟨g, k, none⟩ = some (.string (mkS (wordsL K q)[k])) := by
        have := (GB.own hgb hw' (by intro j hj; simp [Value.ownBlock] at hj ⊢; omega)).cell k (by rw [HWL.out]; exact hlt)
        simpa [scells] using this
      obtain ⟨u, hu⟩ : ∃ u, u = (wordsL K q)[k] := ⟨_, rfl⟩
      rw [← hu] at hwc
      obtain ⟨hul, hua⟩ := mem_wordsL (show u ∈ wordsL K q by rw [hu]; exact List.getElem_mem _) (by omega) hk3
      have htk : (wordsL K q).take (k + 1) = (wordsL K q).take k ++ [u] := by rw [hu]; exact List.take_succ_eq_append_getElem hlw
      obtain ⟨t, ht⟩ : ∃ t, t = ((wordsL K q).take k).map (composeL K m o o') := ⟨_, rfl⟩
      rw [← ht] at bz'
      obtain ⟨z0, z1, z2, zf0, zf1, zf2⟩ := bz'.c3
      have hcat := mkS_append t [composeL K m o o' u]
      have hsz1 : (mkS t).size + (mkS [composeL K m o o' u]).size ≤ 28 := by rw [mkS_size, mkS_size, ht]; simp; omega
      have hus : (mkS u).size ≤ 1048576 := by rw [mkS_size]; omega
      have hap : (applyL K m o' u).length = n := by rw [applyL_length]; omega
      have haa := areLet_apply hf'.size hf'.lets hua
      have HA := Lib.hid (And.intro hap (And.intro haa hua))
      have HT := Lib.hid (And.intro htk ht)
      clear hu ht htk hlw hul hap haa hua
      go_wp2
      refine wp_region_tail (by kernel_rfl) 12 [.known (.pointer (some ⟨z, 2, none⟩)), .known (.string (mkS t)), .known (.agg #[.int .i64 K, .int .i64 n, .string o]), .known (.agg #[.int .i64 K, .int .i64 m, .string o']), .known (.slice (some ⟨g, 0, none⟩) N cap), .known (.int .i64 k), .known (.pointer (some ⟨g, k, none⟩)), .known (.string (mkS u)), .known (.string (mkS (applyL K m o' u))), .known (.string (mkS [composeL K m o o' u])), .known (.string (mkS (t ++ [composeL K m o o' u]))), .known (.pointer (some ⟨z, 2, none⟩))] rfl (by decide) (by kernel_rfl) (by kernel_rfl) ?_ ?_
      · intro vs
        refine ⟨fun w' hx hj => ?_, fun w' hx hj => ?_, fun w' hx hj => ?_, fun w' hx hj => ?_, fun w' hx hj => ?_, fun w' hx hj => ?_, fun w' hx hj => ?_, fun w' hx hj => ?_, fun w' hx hj => ?_, fun w' hx hj => ?_, fun w' hx hj => ?_, fun w' hx hj => ?_, trivial⟩
        · clear hj
          go_simp
        · have c0 := Ext.cell_some hx z2
          clear hj
          go_simp
        · have c0 := Ext.cell_some hx c0
          have c1 := Ext.cell_some hx c1
          have c2 := Ext.cell_some hx c2
          clear hj
          go_simp
        · have c0 := Ext.cell_some hx d0
          have c1 := Ext.cell_some hx d1
          have c2 := Ext.cell_some hx d2
          clear hj
          go_simp
        · clear hj
          go_simp
        · clear hj
          go_simp
        · clear hj
          go_simp
        · have c0 := Ext.cell_some hx hwc
          clear hj
          go_simp
        · clear hj
          go_simp
          rw [← mkS_data u]
          rw [mkS_data_self]
          exact spec_l11Apply_any K m o' (mkS u) _ hf' hus (by rw [mkS_data]; exact HA.out.2.2)
        · clear hj
          go_simp
          exact spec_l11Letter_any K n o _ _ hf HA.out.1 HA.out.2.1
        · have p1 : ¬ 9223372036854775807 < (mkS t).size + (mkS [composeL K m o o' u]).size := by omega
          clear hj
          go_simp
        · clear hj
          go_simp
      · intro vs w4 hx4 hk
        clear hk
        go_simp
        have hx5 := hx.trans hx4
        have hg4 := GB.ext hgb hx4
        have bz4 := (bz'.ext hx4).set (i := 2) (by simp) (.string (mkS (t ++ [composeL K m o o' u])))
        obtain ⟨y0, y1, y2, yf0, yf1, yf2⟩ := (bz'.ext hx4).c3
        clear hx hx4 hgb hwc hcat z0 z1 z2 zf0 zf1 zf2 c0 c1 c2 d0 d1 d2 r0 r1 r2 f0 f1 f2 ao ao' ar
        go_wp2
        go_roundw
        case rel => exact ⟨k + 1, by omega, by go_num, GB.setCell hg4 _ _, by (repeat (first | exact hx5 | exact Ext.refl _ | exact Ext.alloc _ _ | refine Ext.alloced ?_ _ | (refine Ext.stored ?_ ?_; rotate_left; (· (first | (show _ ≤ _; omega) | (simp; done) | (simp; omega)))))), by rw [HT.out.1, List.map_append, ← HT.out.2]; exact bz4⟩
        case measure => simp [intOf]; omega
    · have : k = N := by omega
      subst this
      have htk : (wordsL K q).take k = wordsL K q := List.take_of_length_le (by have := HWL.out; simp [scells] at this; omega)
      rw [htk] at bz'
      obtain ⟨z0, z1, z2, -, -, -⟩ := bz'.c3
      clear htk hgb
      go_wp2
      refine bodyPost_ret (v := .tuple #[.agg #[.int .i64 K, .int .i64 q, .string (mkS ((wordsL K q).map (composeL K m o o')))], .bool true]) ?_ rfl ⟨rfl, by (repeat (first | exact hx | exact Ext.refl _ | exact Ext.alloc _ _ | refine Ext.alloced ?_ _ | (refine Ext.stored ?_ ?_; rotate_left; (· (first | (show _ ≤ _; omega) | (simp; done) | (simp; omega))))))⟩
      simp [results, Tryz.results7, go_sem, r0, r1, r2]
end Go.Proofs.YtgaeeibcfoppbaaGreatDoor

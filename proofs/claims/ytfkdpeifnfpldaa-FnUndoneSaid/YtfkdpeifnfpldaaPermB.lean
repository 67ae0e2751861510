/- Contract: the reference's IsPermutive. -/
import Derived.Test.YtfkdpeifnfpldaaPermA
import Derived.Test.YtfkdpeifnfpldaaPkM
import Derived.Test.YtfkdpeifnfpldaaOccurs
import Derived.Test.YtfkdpeifnfpldaaPkC
namespace Go.Proofs.Ytfkdpeifnfpldaa
open Go.RowKit Go.Cm

set_option maxHeartbeats 1000000 in
theorem spec_IsPermutive_no (L W : Int) (o : ByteArray) (r : Bool) (w : World) (ho : o.size ≤ maxLen) (hc : codeOk L W o = false) :
    Calls Try.prog 37 #[.agg #[.int .i64 L, .int .i64 W, .string o], .bool r] w fun e w' => e = .returned (.bool false) ∧ Ext w w' := by
  go_enter Try.func37, Try.ntmps37
  go_wp2_with fail
  refine (spec_IsCode_any _ _ _ _ ho).mono ?_
  rintro e w1 ⟨rfl, hx⟩
  rw [hc]
  replace hx := (Ext.alloc _ _).trans hx
  go_wp2
  go_ret
  exact ⟨rfl, hx⟩

theorem grpS_mem {K m : Nat} {o : ByteArray} {r : Bool} {i a : Nat} (hf : CodeFit K (m + 1) o) (ha : a < K) (hi : i < K ^ m) :
    givesL K o (grpL K m i a r) ∈ grpS K m o r i a ↔ (o.data.toList.getD (atL K (K ^ m) i a r) 0).toNat - 97 ∈ rowL K (K ^ m) o r i a := by
  have hk2 := hf.k2
  have hk3 := hf.k3
  have hl : ∀ x, x < K → isLet K (givesL K o (grpL K m i x r)) = true := by
    intro x hx
    obtain ⟨h1, h2⟩ := givesL_eq hf (grpL_length K m i x r) (areLet_grp K m i x r (by omega) hk3 hx)
    unfold givesL
    exact isLet_getD hf.lets (by simpa using h1)
  rw [rowL_grpS K m o r i a (by omega) hk3 (by omega) hi, ← idxL_grp K m i a r (by omega) hk3 ha hi]
  constructor
  · intro h
    exact List.mem_map.2 ⟨_, h, rfl⟩
  · intro h
    obtain ⟨c, hc, he⟩ := List.mem_map.1 h
    obtain ⟨x, hx, rfl⟩ := List.mem_map.1 hc
    have hx' : x < a := by simpa using hx
    have := num_inj (hl x (by omega)) (hl a ha) he
    rw [← this]; exact hc

set_option maxRecDepth 100000 in
set_option maxHeartbeats 2000000 in
theorem spec_IsPermutive_yes (K n m : Nat) (o : ByteArray) (r : Bool) (w : World) (hn : n = m + 1) (hc : codeOk K n o = true) (hf : CodeFit K n o) :
    Calls Try.prog 37 #[.agg #[.int .i64 K, .int .i64 n, .string o], .bool r] w fun e w' => e = .returned (.bool (permB K m o r)) ∧ Ext w w' := by
  have ho : o.size ≤ maxLen := by have := hf.size; have := hf.le; unfold maxLen; omega
  have hk2 := hf.k2
  have hk3 := hf.k3
  have hn4 := hf.n4
  have e1 : (n : Int) - 1 = m := by omega
  have hm : m ≤ 3 := by omega
  have hwl : (scells (wordsL K m)).length = K ^ m := by simp [scells, wordsL]
  have hNp : 0 < K ^ m := Nat.pow_pos (by omega)
  have hN27 : K ^ m ≤ 27 := by
    have h1 := hf.le
    rw [hn, Nat.pow_succ] at h1
    have h2 : K ^ m * 1 ≤ K ^ m * K := Nat.mul_le_mul_left _ (by omega)
    omega
  obtain ⟨N, hN⟩ : ∃ N, N = K ^ m := ⟨_, rfl⟩
  rw [← hN] at hwl hNp hN27
  have HWL := Lib.hid hwl
  have HN := Lib.hid hN
  have hf' : CodeFit K (m + 1) o := by rw [← hn]; exact hf
  have HF := Lib.hid (And.intro hf hf')
  have HM := Lib.hid hn
  clear hN hf hn hf' hwl
  go_enter Try.func37, Try.ntmps37
  go_wp2_with fail
  refine (spec_IsCode_any _ _ _ _ ho).mono ?_
  rintro e w1 ⟨rfl, hx⟩
  rw [hc]
  have bo := (show Blk _ w.heap.size #[.int .i64 K, .int .i64 n, .string o] by (repeat (first | (refine Blk.mk' ?_; (simp; done)) | apply Blk.old))).ext hx
  replace hx := (Ext.alloc _ _).trans hx
  obtain ⟨c0, c1, c2, -, -, -⟩ := bo.c3
  go_wp2_with fail
  refine (spec_l2All_any K m _ (by omega) (by omega) (by omega)).mono ?_
  rintro e w2 ⟨v9, rfl, hw, hx2⟩
  have hsh := hw.shape
  rw [HWL.out] at hsh
  rcases hsh with ⟨_, hnil⟩ | ⟨g, cap, rfl, _, _, _, _⟩
  · exfalso
    have := HWL.out
    rw [hnil] at this
    simp at this
    omega
  replace hx := hx.trans hx2
  replace bo := bo.ext hx2
  clear c0 c1 c2 hx2 e1
  go_wp2
  go_loopw [6] (fun i wr => ∃ k : Nat, k ≤ N ∧ i = .int .i64 k ∧ (∀ j, j < k → (rowL K N o r j K).Nodup) ∧ Ext w wr ∧ Ext w2 wr) (fun i _ => N - (intOf i).toNat)
  case atStart => exact ⟨0, by omega, rfl, fun j hj => absurd hj (by omega), hx, Ext.refl _⟩
  case round =>
    clear hx
    obtain ⟨k, hk, rfl, hall, hx, hxx⟩ := hrel
    have HA := Lib.hid hall
    clear hall
    by_cases hlt : k < N
    · obtain ⟨wo, rfl⟩ : ∃ wo : World, wo = wr := ⟨_, rfl⟩
      go_wp2
      go_loopw [7, 8] (fun v x wr => ∃ a : Nat, a ≤ K ∧ x = .int .i64 a ∧ v = .string (mkS (grpS K m o r k a)) ∧ (rowL K N o r k a).Nodup ∧ Ext w wr ∧ Ext w2 wr) (fun _ x _ => K - (intOf x).toNat)
      case atStart => exact ⟨0, by omega, rfl, by simp [grpS, mkS], by simp [rowL], hx, hxx⟩
      case round =>
        clear hx hxx
        obtain ⟨a, hak, rfl, rfl, hnd, hx, hxx⟩ := hrel
        have HD := Lib.hid hnd
        clear hnd
        obtain ⟨c0, c1, c2, -, -, -⟩ := (bo.ext hxx).c3
        by_cases hla : a < K
        · have hwc : wr.cell? ⟨g, k, none⟩ = some (.string (mkS (wordL K m k))) := by
            have h1 := (hw.ext hxx).cell k (by rw [HWL.out]; exact hlt)
            simpa [scells, wordsL] using h1
          have hul : (wordL K m k).length = m := wordL_length K m k
          have habc := abc_at a (by omega)
          have hgl := grpL_length K m k a r
          rw [← HM.out] at hgl
          have hga := areLet_grp K m k a r (by omega) hk3 hla
          have hrs := rowL_succ K N o r k a
          have hgs := grpS_succ K m o r k a
          have hmem := grpS_mem (r := r) HF.out.2 hla (show k < K ^ m by rw [← HN.out]; exact hlt)
          have hgsl := grpS_length K m o r k a
          have bad : givesL K o (grpL K m k a r) ∈ grpS K m o r k a → permB K m o r = false := by
            intro h
            exact permB_bad (i := k) (a := a) (by rw [← HN.out]; exact hlt) hla (hmem.1 h)
          rw [← HN.out] at hmem
          obtain ⟨t, ht⟩ : ∃ t, t = grpS K m o r k a := ⟨_, rfl⟩
          rw [← ht] at hgs hmem bad hgsl ⊢
          obtain ⟨u, hu⟩ : ∃ u, u = wordL K m k := ⟨_, rfl⟩
          rw [← hu] at hwc hul
          obtain ⟨gw, hgw⟩ : ∃ gw, gw = grpL K m k a r := ⟨_, rfl⟩
          rw [← hgw] at hgl hga hgs hmem bad
          have hg1 : r = false → mkS (u ++ [letN a]) = mkS gw := by intro h; rw [hgw, hu, h]; simp [grpL]
          have hg2 : r = true → mkS (letN a :: u) = mkS gw := by intro h; rw [hgw, hu, h]; simp [grpL]
          have hcat1 := mkS_append u [letN a]
          have hcat2 := mkS_append [letN a] u
          have hcat3 := mkS_append t [givesL K o gw]
          have hz1 : (mkS u).size = m := by rw [mkS_size, hul]
          have hz2 : (mkS [letN a]).size = 1 := mkS_size _
          have hz3 : (mkS t).size = a := by rw [mkS_size, hgsl]
          have hz4 : (mkS [givesL K o gw]).size = 1 := mkS_size _
          have HB := Lib.hid (And.intro bad (And.intro hrs (And.intro hgs (And.intro hmem (And.intro hgl (And.intro hga hgsl))))))
          clear bad hrs hgs hmem hgl hga hgsl ht hu hgw hul
          cases hr : r with
          | false =>
            have hgx := hg1 hr
            rw [hr] at HB HD
            clear hg1 hg2 hcat2
            go_wp2
            refine wp_region_inv (by kernel_rfl) [.known (.slice (some ⟨g, 0, none⟩) N cap), .known (.int .i64 k), .known (.pointer (some ⟨g, k, none⟩)), .known (.string (mkS u)), .known (.int .i64 a), .known (.int .i64 a), .known (.int .i64 (a + 1)), .known (.string (mkS [letN a])), .known (.string (mkS gw)), .known (.string (mkS gw))] rfl (by kernel_rfl) ?_ ?_
            · intro vs
              refine ⟨fun w' hx hj => ?_, fun w' hx hj => ?_, fun w' hx hj => ?_, fun w' hx hj => ?_, fun w' hx hj => ?_, fun w' hx hj => ?_, fun w' hx hj => ?_, fun w' hx hj => ?_, fun w' hx hj => ?_, fun w' hx hj => ?_, trivial⟩
              · clear hj
                go_simp
              · clear hj
                go_simp
              · clear hj
                go_simp
              · have c0 := Ext.cell_some hx hwc
                clear hj
                go_simp
              · clear hj
                go_simp
              · clear hj
                go_simp
              · have e1 : IntKind.i64.wrap ((a : Int) + 1) = a + 1 := IntWalk.i64_in _ (by omega)
                clear hj
                go_simp
              · have p1 : (0 : Int) ≤ (a : Int) + 1 := by omega
                have p2 : (a : Int) + 1 ≤ 3 := by omega
                have p3 : (a : Int) ≤ a + 1 := by omega
                clear hj
                go_simp
              · have p1 : ¬ 9223372036854775807 < m + 1 := by omega
                clear hj
                go_simp
              · clear hj
                go_simp
            · intro vs w3 hx3 hk
              clear hk
              go_simp
              have hy := hx.trans hx3
              have hyy := hxx.trans hx3
              clear hcat1 habc hgx hwc hx3
              obtain ⟨c0', c1', c2', -, -, -⟩ := (bo.ext hyy).c3
              go_wp2_with fail
              refine (spec_l11Letter_any K n o gw _ HF.out.1 HB.out.2.2.2.2.1 HB.out.2.2.2.2.2.1).mono ?_
              rintro e w5 ⟨rfl, hx5⟩
              replace hy := hy.trans hx5
              replace hyy := hyy.trans hx5
              clear hx5 c0' c1' c2'
              go_wp2_with fail
              refine (spec_OccursIn_one t _ _ (by rw [HB.out.2.2.2.2.2.2]; omega)).mono ?_
              rintro e w6 ⟨rfl, rfl⟩
              by_cases hin : givesL K o gw ∈ t
              · have hb := HB.out.1 hin
                have hd : decide (givesL K o gw ∈ t) = true := by simpa using hin
                rw [hd]
                have HBB := Lib.hid hb
                clear hb hin hd
                go_wp2
                go_ret
                exact ⟨ret_bool (by rw [hr]; exact HBB.out.symm), hy⟩
              · have hnd : (rowL K N o false k (a + 1)).Nodup := by
                  rw [HB.out.2.1, nodup_snoc]
                  exact ⟨HD.out, fun h => hin (HB.out.2.2.2.1.2 h)⟩
                have HN2 := Lib.hid hnd
                have hd : decide (givesL K o gw ∈ t) = false := by simpa using hin
                rw [hd]
                have hgs := HB.out.2.2.1
                have HG := Lib.hid hgs
                clear hnd hin hd hgs
                go_wp2
                go_roundw
                case rel => exact ⟨a + 1, by omega, by go_num, by rw [HG.out], HN2.out, hy, hyy⟩
                case measure => simp [intOf]; omega
          | true =>
            have hgx := hg2 hr
            rw [hr] at HB HD
            clear hg1 hg2
            go_wp2
            refine wp_region_inv (by kernel_rfl) [.known (.slice (some ⟨g, 0, none⟩) N cap), .known (.int .i64 k), .known (.pointer (some ⟨g, k, none⟩)), .known (.string (mkS u)), .known (.int .i64 a), .known (.int .i64 a), .known (.int .i64 (a + 1)), .known (.string (mkS [letN a])), .known (.string (mkS (u ++ [letN a]))), .known (.string (mkS (u ++ [letN a])))] rfl (by kernel_rfl) ?_ ?_
            · intro vs
              refine ⟨fun w' hx hj => ?_, fun w' hx hj => ?_, fun w' hx hj => ?_, fun w' hx hj => ?_, fun w' hx hj => ?_, fun w' hx hj => ?_, fun w' hx hj => ?_, fun w' hx hj => ?_, fun w' hx hj => ?_, fun w' hx hj => ?_, trivial⟩
              · clear hj
                go_simp
              · clear hj
                go_simp
              · clear hj
                go_simp
              · have c0 := Ext.cell_some hx hwc
                clear hj
                go_simp
              · clear hj
                go_simp
              · clear hj
                go_simp
              · have e1 : IntKind.i64.wrap ((a : Int) + 1) = a + 1 := IntWalk.i64_in _ (by omega)
                clear hj
                go_simp
              · have p1 : (0 : Int) ≤ (a : Int) + 1 := by omega
                have p2 : (a : Int) + 1 ≤ 3 := by omega
                have p3 : (a : Int) ≤ a + 1 := by omega
                clear hj
                go_simp
              · have p1 : ¬ 9223372036854775807 < m + 1 := by omega
                clear hj
                go_simp
              · clear hj
                go_simp
            · intro vs w3 hx3 hk
              clear hk
              go_simp
              replace hwc := hx3.cell_some hwc
              have hy3 := hx.trans hx3
              have hyy3 := hxx.trans hx3
              clear hcat1 hx3
              go_wp2
              refine wp_region_inv (by kernel_rfl) [.known (.int .i64 a), .known (.int .i64 a), .known (.int .i64 (a + 1)), .known (.string (mkS [letN a])), .known (.slice (some ⟨g, 0, none⟩) N cap), .known (.int .i64 k), .known (.pointer (some ⟨g, k, none⟩)), .known (.string (mkS u)), .known (.string (mkS gw)), .known (.string (mkS gw))] rfl (by kernel_rfl) ?_ ?_
              · intro vs
                refine ⟨fun w' hx hj => ?_, fun w' hx hj => ?_, fun w' hx hj => ?_, fun w' hx hj => ?_, fun w' hx hj => ?_, fun w' hx hj => ?_, fun w' hx hj => ?_, fun w' hx hj => ?_, fun w' hx hj => ?_, fun w' hx hj => ?_, trivial⟩
                · clear hj
                  go_simp
                · clear hj
                  go_simp
                · have e1 : IntKind.i64.wrap ((a : Int) + 1) = a + 1 := IntWalk.i64_in _ (by omega)
                  clear hj
                  go_simp
                · have p1 : (0 : Int) ≤ (a : Int) + 1 := by omega
                  have p2 : (a : Int) + 1 ≤ 3 := by omega
                  have p3 : (a : Int) ≤ a + 1 := by omega
                  clear hj
                  go_simp
                · clear hj
                  go_simp
                · clear hj
                  go_simp
                · clear hj
                  go_simp
                · have c0 := Ext.cell_some hx hwc
                  clear hj
                  go_simp
                · have p1 : ¬ 9223372036854775807 < 1 + m := by omega
                  clear hj
                  go_simp
                · clear hj
                  go_simp
              · intro vs w4 hx4 hk
                clear hk
                go_simp
                have hy := hy3.trans hx4
                have hyy := hyy3.trans hx4
                clear hcat2 habc hgx hwc hx4
                obtain ⟨c0', c1', c2', -, -, -⟩ := (bo.ext hyy).c3
                go_wp2_with fail
                refine (spec_l11Letter_any K n o gw _ HF.out.1 HB.out.2.2.2.2.1 HB.out.2.2.2.2.2.1).mono ?_
                rintro e w5 ⟨rfl, hx5⟩
                replace hy := hy.trans hx5
                replace hyy := hyy.trans hx5
                clear hx5 c0' c1' c2'
                go_wp2_with fail
                refine (spec_OccursIn_one t _ _ (by rw [HB.out.2.2.2.2.2.2]; omega)).mono ?_
                rintro e w6 ⟨rfl, rfl⟩
                by_cases hin : givesL K o gw ∈ t
                · have hb := HB.out.1 hin
                  have hd : decide (givesL K o gw ∈ t) = true := by simpa using hin
                  rw [hd]
                  have HBB := Lib.hid hb
                  clear hb hin hd
                  go_wp2
                  go_ret
                  exact ⟨ret_bool (by rw [hr]; exact HBB.out.symm), hy⟩
                · have hnd : (rowL K N o true k (a + 1)).Nodup := by
                    rw [HB.out.2.1, nodup_snoc]
                    exact ⟨HD.out, fun h => hin (HB.out.2.2.2.1.2 h)⟩
                  have HN2 := Lib.hid hnd
                  have hd : decide (givesL K o gw ∈ t) = false := by simpa using hin
                  rw [hd]
                  have hgs := HB.out.2.2.1
                  have HG := Lib.hid hgs
                  clear hnd hin hd hgs
                  go_wp2
                  go_roundw
                  case rel => exact ⟨a + 1, by omega, by go_num, by rw [HG.out], HN2.out, hy, hyy⟩
                  case measure => simp [intOf]; omega
        · have haK : a = K := by omega
          subst haK
          go_wp2
          go_roundw
          case rel =>
            refine ⟨k + 1, by omega, by go_num, fun j hj => ?_, hx, hxx⟩
            by_cases hjk : j < k
            · exact HA.out j hjk
            · rw [show j = k by omega]; exact HD.out
          case measure => simp [intOf]; omega
    · have hkN : k = N := by omega
      have hp : permB K m o r = true := permB_all (by have h := HA.out; rw [hkN, HN.out] at h; exact h)
      go_wp2
      go_ret
      exact ⟨ret_bool hp.symm, hx⟩
end Go.Proofs.Ytfkdpeifnfpldaa

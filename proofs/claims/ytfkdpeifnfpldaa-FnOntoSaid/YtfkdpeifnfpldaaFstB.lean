/- Contract: the reference's search for the least source. -/
import Derived.Test.YtfkdpeifnfpldaaFstA
import Derived.Test.YtfkdpeifnfpldaaPkC
namespace Go.Proofs.Ytfkdpeifnfpldaa
open Go.RowKit Go.Cm

theorem mkS1_ne {g c : UInt8} (h : ¬ g = c) : ¬ (mkS [g]).toList = (mkS [c]).toList := by
  intro e
  have e2 := bytes_eq e
  have := congrArg (fun s => s.data.toList) e2
  simp only [mkS_data] at this
  exact h (by simpa using this)

set_option maxRecDepth 100000 in
set_option maxHeartbeats 2000000 in
theorem spec_l12First_step (K n : Nat) (o s : ByteArray) (hf : CodeFit K n o) (hs : s.size ≤ 8) (f : Nat) (v : List UInt8) (w : World) (hv : v.length + f + 1 = s.size + n) (ha : areLet K v = true)
    (ih : ∀ f', f = f' + 1 → ∀ (v : List UInt8) (w : World), v.length + f' + 1 = s.size + n → areLet K v = true →
      Calls Try.prog 50 #[.agg #[.int .i64 K, .int .i64 n, .string o], .string s, .string (mkS v)] w fun e w' => e = .returned (srcV (srcS K n o s.data.toList f' v)) ∧ Ext w w') :
    Calls Try.prog 50 #[.agg #[.int .i64 K, .int .i64 n, .string o], .string s, .string (mkS v)] w fun e w' => e = .returned (srcV (srcS K n o s.data.toList f v)) ∧ Ext w w' := by
    have hn1 := hf.n1
    have hn4 := hf.n4
    have hk2 := hf.k2
    have hk3 := hf.k3
    have hts := mkS_size v
    have IH := Lib.hid ih
    clear ih
    have HA := Lib.hid ha
    obtain ⟨t, ht⟩ : ∃ t, t = mkS v := ⟨_, rfl⟩
    obtain ⟨r, hr⟩ : ∃ r, r = srcS K n o s.data.toList f v := ⟨_, rfl⟩
    rw [← hr]
    rw [← ht] at hts ⊢
    have h2 : (t.size : Int) ≤ 20 := by omega
    have HT := Lib.hid (And.intro ht (And.intro hts (And.intro hv hr)))
    clear hts ht hv ha hr
    have bo : Blk (w.alloc (.cells #[.int .i64 K, .int .i64 n, .string o] 25)) w.heap.size #[.int .i64 K, .int .i64 n, .string o] := Blk.mk' rfl
    obtain ⟨c0, c1, c2, -, -, -⟩ := bo.c3
    have hxw : Ext w (w.alloc (.cells #[.int .i64 K, .int .i64 n, .string o] 25)) := Ext.alloc _ _
    by_cases hat : n ≤ t.size
    case' pos =>
      obtain ⟨a, haa⟩ : ∃ a : Nat, a + n = t.size := ⟨t.size - n, by omega⟩
      have hlen : v.length = t.size := HT.out.2.1.symm
      have hfv := HT.out.2.2.1
      have he : (t.size : Int) - (n : Int) = (a : Int) := by omega
      have has : a < s.size := by omega
      have haS : a ≤ t.size := by omega
      have hdl : (v.drop a).length = n := by rw [List.length_drop, hlen]; omega
      have hda : areLet K (v.drop a) = true := by
        have h := HA.out
        unfold areLet at *
        rw [List.all_eq_true] at *
        intro c hc
        exact h c (List.mem_of_mem_drop hc)
      have hex : t.extract a t.size = mkS (v.drop a) := by rw [HT.out.1]; exact mkS_drop _ _
      have hes : s.extract a (a + 1) = mkS [s[a]] := by
        have h1 := mkS_slice s.data.toList a (by simpa using has)
        rw [mkS_data_self] at h1
        rw [h1, List.getD_eq_getElem?_getD, List.getElem?_eq_getElem (by simpa using has)]
        rfl
      have hok : okS K n o s.data.toList v = decide (givesL K o (v.drop a) = s[a]) := by
        unfold okS
        have e2 : t.size - n = a := by omega
        have e3 : decide (t.size < n) = false := by simpa using hat
        have e4 : s.data.toList.getD a 0 = s[a] := by rw [List.getD_eq_getElem?_getD, List.getElem?_eq_getElem (by simpa using has)]; rfl
        rw [hlen, e2, e3, e4]
        rfl
      have HD := Lib.hid (And.intro hdl (And.intro hda hok))
      obtain ⟨g, hg⟩ : ∃ g, g = givesL K o (v.drop a) := ⟨_, rfl⟩
      have HG := Lib.hid hg
      obtain ⟨c, hc⟩ : ∃ c, c = s[a] := ⟨_, rfl⟩
      rw [← hc] at hes
      have HC := Lib.hid hc
      clear hdl hda hok hlen hfv haa hg hc
      by_cases hcc : g = c
      case' neg =>
        have hne : ((mkS [g]).toList == (mkS [c]).toList) = false := by simpa using mkS1_ne hcc
        have hr : r = none := by
          rw [HT.out.2.2.2]
          unfold srcS
          rw [HD.out.2.2, ← HG.out, ← HC.out]
          simp [hcc]
        have HR := Lib.hid hr
        clear hr
        go_enter Try.func50, Try.ntmps50
        go_wp2
        refine wp_region_inv (by kernel_rfl) (.known ?hx5_9_v0 :: .known ?hx5_9_v1 :: .known ?hx5_9_v2 :: .known ?hx5_9_v3 :: .known ?hx5_9_v4 :: .known ?hx5_9_v5 :: .known ?hx5_9_v6 :: .known ?hx5_9_v7 :: .known ?hx5_9_v8 :: .known ?hx5_9_v9 :: .known ?hx5_9_v10 :: .known ?hx5_9_v11 :: .known ?hx5_9_v12 :: .known ?hx5_9_v13 :: .known (.string (mkS [g])) :: .known ?hx5_9_v15 :: .known ?hx5_9_v16 :: .known ?hx5_9_v17 :: .known ?hx5_9_v18 :: .known ?hx5_9_v19 :: .known ?hx5_9_v20 :: .known ?hx5_9_v21 :: .known ?hx5_9_v22 :: .known ?hx5_9_v23 :: .known ?hx5_9_v24 :: .known ?hx5_9_v25 :: .known ?hx5_9_v26 :: .known ?hx5_9_v27 :: .known ?hx5_9_v28 :: .known ?hx5_9_v29 :: []) rfl (by kernel_rfl) ?hx5_9_s ?hx5_9_p
        case hx5_9_s =>
          intro vs
          refine ⟨fun w' hxw hj => ?_, fun w' hxw hj => ?_, fun w' hxw hj => ?_, fun w' hxw hj => ?_, fun w' hxw hj => ?_, fun w' hxw hj => ?_, fun w' hxw hj => ?_, fun w' hxw hj => ?_, fun w' hxw hj => ?_, fun w' hxw hj => ?_, fun w' hxw hj => ?_, fun w' hxw hj => ?_, fun w' hxw hj => ?_, fun w' hxw hj => ?_, fun w' hxw hj => ?_, fun w' hxw hj => ?_, fun w' hxw hj => ?_, fun w' hxw hj => ?_, fun w' hxw hj => ?_, fun w' hxw hj => ?_, fun w' hxw hj => ?_, fun w' hxw hj => ?_, fun w' hxw hj => ?_, fun w' hxw hj => ?_, fun w' hxw hj => ?_, fun w' hxw hj => ?_, fun w' hxw hj => ?_, fun w' hxw hj => ?_, fun w' hxw hj => ?_, fun w' hxw hj => ?_, trivial⟩
          · have c0 := Ext.cell_some hxw c0
            have c1 := Ext.cell_some hxw c1
            have c2 := Ext.cell_some hxw c2
            clear hj
            go_simp
            try go_bits
            first | rfl | (rw [if_pos (by omega), if_pos (by omega)]; go_simp; rfl) | (rw [if_pos (by omega)]; go_simp; rfl) | skip
          · have c0 := Ext.cell_some hxw c0
            have c1 := Ext.cell_some hxw c1
            have c2 := Ext.cell_some hxw c2
            clear hj
            go_simp
            try go_bits
            first | rfl | (rw [if_pos (by omega), if_pos (by omega)]; go_simp; rfl) | (rw [if_pos (by omega)]; go_simp; rfl) | skip
          · have c0 := Ext.cell_some hxw c0
            have c1 := Ext.cell_some hxw c1
            have c2 := Ext.cell_some hxw c2
            clear hj
            go_simp
            try go_bits
            first | rfl | (rw [if_pos (by omega), if_pos (by omega)]; go_simp; rfl) | (rw [if_pos (by omega)]; go_simp; rfl) | skip
          · have c0 := Ext.cell_some hxw c0
            have c1 := Ext.cell_some hxw c1
            have c2 := Ext.cell_some hxw c2
            clear hj
            go_simp
            try go_bits
            first | rfl | (rw [if_pos (by omega), if_pos (by omega)]; go_simp; rfl) | (rw [if_pos (by omega)]; go_simp; rfl) | skip
          · have c0 := Ext.cell_some hxw c0
            have c1 := Ext.cell_some hxw c1
            have c2 := Ext.cell_some hxw c2
            clear hj
            go_simp
            try go_bits
            first | rfl | (rw [if_pos (by omega), if_pos (by omega)]; go_simp; rfl) | (rw [if_pos (by omega)]; go_simp; rfl) | skip
          · have c0 := Ext.cell_some hxw c0
            have c1 := Ext.cell_some hxw c1
            have c2 := Ext.cell_some hxw c2
            clear hj
            go_simp
            try go_bits
            first | rfl | (rw [if_pos (by omega), if_pos (by omega)]; go_simp; rfl) | (rw [if_pos (by omega)]; go_simp; rfl) | skip
          · have c0 := Ext.cell_some hxw c0
            have c1 := Ext.cell_some hxw c1
            have c2 := Ext.cell_some hxw c2
            clear hj
            go_simp
            try go_bits
            first | rfl | (rw [if_pos (by omega), if_pos (by omega)]; go_simp; rfl) | (rw [if_pos (by omega)]; go_simp; rfl) | skip
          · have c0 := Ext.cell_some hxw c0
            have c1 := Ext.cell_some hxw c1
            have c2 := Ext.cell_some hxw c2
            clear hj
            go_simp
            try go_bits
            first | rfl | (rw [if_pos (by omega), if_pos (by omega)]; go_simp; rfl) | (rw [if_pos (by omega)]; go_simp; rfl) | skip
          · have c0 := Ext.cell_some hxw c0
            have c1 := Ext.cell_some hxw c1
            have c2 := Ext.cell_some hxw c2
            clear hj
            go_simp
            try go_bits
            first | rfl | (rw [if_pos (by omega), if_pos (by omega)]; go_simp; rfl) | (rw [if_pos (by omega)]; go_simp; rfl) | skip
          · have c0 := Ext.cell_some hxw c0
            have c1 := Ext.cell_some hxw c1
            have c2 := Ext.cell_some hxw c2
            clear hj
            go_simp
            try go_bits
            first | rfl | (rw [if_pos (by omega), if_pos (by omega)]; go_simp; rfl) | (rw [if_pos (by omega)]; go_simp; rfl) | skip
          · have c0 := Ext.cell_some hxw c0
            have c1 := Ext.cell_some hxw c1
            have c2 := Ext.cell_some hxw c2
            clear hj
            go_simp
            try go_bits
            first | rfl | (rw [if_pos (by omega), if_pos (by omega)]; go_simp; rfl) | (rw [if_pos (by omega)]; go_simp; rfl) | skip
          · have c0 := Ext.cell_some hxw c0
            have c1 := Ext.cell_some hxw c1
            have c2 := Ext.cell_some hxw c2
            clear hj
            go_simp
            try go_bits
            first | rfl | (rw [if_pos (by omega), if_pos (by omega)]; go_simp; rfl) | (rw [if_pos (by omega)]; go_simp; rfl) | skip
          · have c0 := Ext.cell_some hxw c0
            have c1 := Ext.cell_some hxw c1
            have c2 := Ext.cell_some hxw c2
            clear hj
            go_simp
            try go_bits
            first | rfl | (rw [if_pos (by omega), if_pos (by omega)]; go_simp; rfl) | (rw [if_pos (by omega)]; go_simp; rfl) | skip
          · have c0 := Ext.cell_some hxw c0
            have c1 := Ext.cell_some hxw c1
            have c2 := Ext.cell_some hxw c2
            clear hj
            go_simp
            try go_bits
            first | rfl | (rw [if_pos (by omega), if_pos (by omega)]; go_simp; rfl) | (rw [if_pos (by omega)]; go_simp; rfl) | skip
          · have c0 := Ext.cell_some hxw c0
            have c1 := Ext.cell_some hxw c1
            have c2 := Ext.cell_some hxw c2
            clear hj
            go_simp
            try go_bits
            rw [HG.out]
            exact spec_l11Letter_any K n o _ _ hf HD.out.1 HD.out.2.1
          · have c0 := Ext.cell_some hxw c0
            have c1 := Ext.cell_some hxw c1
            have c2 := Ext.cell_some hxw c2
            clear hj
            go_simp
            try go_bits
            first | rfl | (rw [if_pos (by omega), if_pos (by omega)]; go_simp; rfl) | (rw [if_pos (by omega)]; go_simp; rfl) | skip
          · have c0 := Ext.cell_some hxw c0
            have c1 := Ext.cell_some hxw c1
            have c2 := Ext.cell_some hxw c2
            clear hj
            go_simp
            try go_bits
            first | rfl | (rw [if_pos (by omega), if_pos (by omega)]; go_simp; rfl) | (rw [if_pos (by omega)]; go_simp; rfl) | skip
          · have c0 := Ext.cell_some hxw c0
            have c1 := Ext.cell_some hxw c1
            have c2 := Ext.cell_some hxw c2
            clear hj
            go_simp
            try go_bits
            first | rfl | (rw [if_pos (by omega), if_pos (by omega)]; go_simp; rfl) | (rw [if_pos (by omega)]; go_simp; rfl) | skip
          · have c0 := Ext.cell_some hxw c0
            have c1 := Ext.cell_some hxw c1
            have c2 := Ext.cell_some hxw c2
            clear hj
            go_simp
            try go_bits
            first | rfl | (rw [if_pos (by omega), if_pos (by omega)]; go_simp; rfl) | (rw [if_pos (by omega)]; go_simp; rfl) | skip
          · have c0 := Ext.cell_some hxw c0
            have c1 := Ext.cell_some hxw c1
            have c2 := Ext.cell_some hxw c2
            clear hj
            go_simp
            try go_bits
            first | rfl | (rw [if_pos (by omega), if_pos (by omega)]; go_simp; rfl) | (rw [if_pos (by omega)]; go_simp; rfl) | skip
          · have c0 := Ext.cell_some hxw c0
            have c1 := Ext.cell_some hxw c1
            have c2 := Ext.cell_some hxw c2
            clear hj
            go_simp
            try go_bits
            first | rfl | (rw [if_pos (by omega), if_pos (by omega)]; go_simp; rfl) | (rw [if_pos (by omega)]; go_simp; rfl) | skip
          · have c0 := Ext.cell_some hxw c0
            have c1 := Ext.cell_some hxw c1
            have c2 := Ext.cell_some hxw c2
            clear hj
            go_simp
            try go_bits
            first | rfl | (rw [if_pos (by omega), if_pos (by omega)]; go_simp; rfl) | (rw [if_pos (by omega)]; go_simp; rfl) | skip
          · have c0 := Ext.cell_some hxw c0
            have c1 := Ext.cell_some hxw c1
            have c2 := Ext.cell_some hxw c2
            clear hj
            go_simp
            try go_bits
            first | rfl | (rw [if_pos (by omega), if_pos (by omega)]; go_simp; rfl) | (rw [if_pos (by omega)]; go_simp; rfl) | skip
          · have c0 := Ext.cell_some hxw c0
            have c1 := Ext.cell_some hxw c1
            have c2 := Ext.cell_some hxw c2
            clear hj
            go_simp
            try go_bits
            first | rfl | (rw [if_pos (by omega), if_pos (by omega)]; go_simp; rfl) | (rw [if_pos (by omega)]; go_simp; rfl) | skip
          · have c0 := Ext.cell_some hxw c0
            have c1 := Ext.cell_some hxw c1
            have c2 := Ext.cell_some hxw c2
            clear hj
            go_simp
            try go_bits
            first | rfl | (rw [if_pos (by omega), if_pos (by omega)]; go_simp; rfl) | (rw [if_pos (by omega)]; go_simp; rfl) | skip
          · have c0 := Ext.cell_some hxw c0
            have c1 := Ext.cell_some hxw c1
            have c2 := Ext.cell_some hxw c2
            clear hj
            go_simp
            try go_bits
            first | rfl | (rw [if_pos (by omega), if_pos (by omega)]; go_simp; rfl) | (rw [if_pos (by omega)]; go_simp; rfl) | skip
          · have c0 := Ext.cell_some hxw c0
            have c1 := Ext.cell_some hxw c1
            have c2 := Ext.cell_some hxw c2
            clear hj
            go_simp
            try go_bits
            first | rfl | (rw [if_pos (by omega), if_pos (by omega)]; go_simp; rfl) | (rw [if_pos (by omega)]; go_simp; rfl) | skip
          · have c0 := Ext.cell_some hxw c0
            have c1 := Ext.cell_some hxw c1
            have c2 := Ext.cell_some hxw c2
            clear hj
            go_simp
            try go_bits
            first | rfl | (rw [if_pos (by omega), if_pos (by omega)]; go_simp; rfl) | (rw [if_pos (by omega)]; go_simp; rfl) | skip
          · have c0 := Ext.cell_some hxw c0
            have c1 := Ext.cell_some hxw c1
            have c2 := Ext.cell_some hxw c2
            clear hj
            go_simp
            try go_bits
            first | rfl | (rw [if_pos (by omega), if_pos (by omega)]; go_simp; rfl) | (rw [if_pos (by omega)]; go_simp; rfl) | skip
          · have c0 := Ext.cell_some hxw c0
            have c1 := Ext.cell_some hxw c1
            have c2 := Ext.cell_some hxw c2
            clear hj
            go_simp
            try go_bits
            first | rfl | (rw [if_pos (by omega), if_pos (by omega)]; go_simp; rfl) | (rw [if_pos (by omega)]; go_simp; rfl) | skip
        case' hx5_9_p =>
          intro vs w5 hx5 hk
          clear hk
          replace c0 := Ext.cell_some hx5 c0
          replace c1 := Ext.cell_some hx5 c1
          replace c2 := Ext.cell_some hx5 c2
          replace bo := Blk.ext bo hx5
          replace hxw := Ext.trans hxw hx5
          go_simp
          clear hx5
          go_wp2
          go_ret2
          exact ⟨by rw [HR.out]; rfl, hxw⟩
      case' pos =>
        subst hcc
        have hoks : okS K n o s.data.toList v = true := by rw [HD.out.2.2, ← HG.out, ← HC.out]; simp
        have HO := Lib.hid hoks
        clear hoks
        go_enter Try.func50, Try.ntmps50
        go_wp2
        refine wp_region_inv (by kernel_rfl) (.known ?hx5_10_v0 :: .known ?hx5_10_v1 :: .known ?hx5_10_v2 :: .known ?hx5_10_v3 :: .known ?hx5_10_v4 :: .known ?hx5_10_v5 :: .known ?hx5_10_v6 :: .known ?hx5_10_v7 :: .known ?hx5_10_v8 :: .known ?hx5_10_v9 :: .known ?hx5_10_v10 :: .known ?hx5_10_v11 :: .known ?hx5_10_v12 :: .known ?hx5_10_v13 :: .known (.string (mkS [g])) :: .known ?hx5_10_v15 :: .known ?hx5_10_v16 :: .known ?hx5_10_v17 :: .known ?hx5_10_v18 :: .known ?hx5_10_v19 :: .known ?hx5_10_v20 :: .known ?hx5_10_v21 :: .known ?hx5_10_v22 :: .known ?hx5_10_v23 :: .known ?hx5_10_v24 :: .known ?hx5_10_v25 :: .known ?hx5_10_v26 :: .known ?hx5_10_v27 :: .known ?hx5_10_v28 :: .known ?hx5_10_v29 :: []) rfl (by kernel_rfl) ?hx5_10_s ?hx5_10_p
        case hx5_10_s =>
          intro vs
          refine ⟨fun w' hxw hj => ?_, fun w' hxw hj => ?_, fun w' hxw hj => ?_, fun w' hxw hj => ?_, fun w' hxw hj => ?_, fun w' hxw hj => ?_, fun w' hxw hj => ?_, fun w' hxw hj => ?_, fun w' hxw hj => ?_, fun w' hxw hj => ?_, fun w' hxw hj => ?_, fun w' hxw hj => ?_, fun w' hxw hj => ?_, fun w' hxw hj => ?_, fun w' hxw hj => ?_, fun w' hxw hj => ?_, fun w' hxw hj => ?_, fun w' hxw hj => ?_, fun w' hxw hj => ?_, fun w' hxw hj => ?_, fun w' hxw hj => ?_, fun w' hxw hj => ?_, fun w' hxw hj => ?_, fun w' hxw hj => ?_, fun w' hxw hj => ?_, fun w' hxw hj => ?_, fun w' hxw hj => ?_, fun w' hxw hj => ?_, fun w' hxw hj => ?_, fun w' hxw hj => ?_, trivial⟩
          · have c0 := Ext.cell_some hxw c0
            have c1 := Ext.cell_some hxw c1
            have c2 := Ext.cell_some hxw c2
            clear hj
            go_simp
            try go_bits
            first | rfl | (rw [if_pos (by omega), if_pos (by omega)]; go_simp; rfl) | (rw [if_pos (by omega)]; go_simp; rfl) | skip
          · have c0 := Ext.cell_some hxw c0
            have c1 := Ext.cell_some hxw c1
            have c2 := Ext.cell_some hxw c2
            clear hj
            go_simp
            try go_bits
            first | rfl | (rw [if_pos (by omega), if_pos (by omega)]; go_simp; rfl) | (rw [if_pos (by omega)]; go_simp; rfl) | skip
          · have c0 := Ext.cell_some hxw c0
            have c1 := Ext.cell_some hxw c1
            have c2 := Ext.cell_some hxw c2
            clear hj
            go_simp
            try go_bits
            first | rfl | (rw [if_pos (by omega), if_pos (by omega)]; go_simp; rfl) | (rw [if_pos (by omega)]; go_simp; rfl) | skip
          · have c0 := Ext.cell_some hxw c0
            have c1 := Ext.cell_some hxw c1
            have c2 := Ext.cell_some hxw c2
            clear hj
            go_simp
            try go_bits
            first | rfl | (rw [if_pos (by omega), if_pos (by omega)]; go_simp; rfl) | (rw [if_pos (by omega)]; go_simp; rfl) | skip
          · have c0 := Ext.cell_some hxw c0
            have c1 := Ext.cell_some hxw c1
            have c2 := Ext.cell_some hxw c2
            clear hj
            go_simp
            try go_bits
            first | rfl | (rw [if_pos (by omega), if_pos (by omega)]; go_simp; rfl) | (rw [if_pos (by omega)]; go_simp; rfl) | skip
          · have c0 := Ext.cell_some hxw c0
            have c1 := Ext.cell_some hxw c1
            have c2 := Ext.cell_some hxw c2
            clear hj
            go_simp
            try go_bits
            first | rfl | (rw [if_pos (by omega), if_pos (by omega)]; go_simp; rfl) | (rw [if_pos (by omega)]; go_simp; rfl) | skip
          · have c0 := Ext.cell_some hxw c0
            have c1 := Ext.cell_some hxw c1
            have c2 := Ext.cell_some hxw c2
            clear hj
            go_simp
            try go_bits
            first | rfl | (rw [if_pos (by omega), if_pos (by omega)]; go_simp; rfl) | (rw [if_pos (by omega)]; go_simp; rfl) | skip
          · have c0 := Ext.cell_some hxw c0
            have c1 := Ext.cell_some hxw c1
            have c2 := Ext.cell_some hxw c2
            clear hj
            go_simp
            try go_bits
            first | rfl | (rw [if_pos (by omega), if_pos (by omega)]; go_simp; rfl) | (rw [if_pos (by omega)]; go_simp; rfl) | skip
          · have c0 := Ext.cell_some hxw c0
            have c1 := Ext.cell_some hxw c1
            have c2 := Ext.cell_some hxw c2
            clear hj
            go_simp
            try go_bits
            first | rfl | (rw [if_pos (by omega), if_pos (by omega)]; go_simp; rfl) | (rw [if_pos (by omega)]; go_simp; rfl) | skip
          · have c0 := Ext.cell_some hxw c0
            have c1 := Ext.cell_some hxw c1
            have c2 := Ext.cell_some hxw c2
            clear hj
            go_simp
            try go_bits
            first | rfl | (rw [if_pos (by omega), if_pos (by omega)]; go_simp; rfl) | (rw [if_pos (by omega)]; go_simp; rfl) | skip
          · have c0 := Ext.cell_some hxw c0
            have c1 := Ext.cell_some hxw c1
            have c2 := Ext.cell_some hxw c2
            clear hj
            go_simp
            try go_bits
            first | rfl | (rw [if_pos (by omega), if_pos (by omega)]; go_simp; rfl) | (rw [if_pos (by omega)]; go_simp; rfl) | skip
          · have c0 := Ext.cell_some hxw c0
            have c1 := Ext.cell_some hxw c1
            have c2 := Ext.cell_some hxw c2
            clear hj
            go_simp
            try go_bits
            first | rfl | (rw [if_pos (by omega), if_pos (by omega)]; go_simp; rfl) | (rw [if_pos (by omega)]; go_simp; rfl) | skip
          · have c0 := Ext.cell_some hxw c0
            have c1 := Ext.cell_some hxw c1
            have c2 := Ext.cell_some hxw c2
            clear hj
            go_simp
            try go_bits
            first | rfl | (rw [if_pos (by omega), if_pos (by omega)]; go_simp; rfl) | (rw [if_pos (by omega)]; go_simp; rfl) | skip
          · have c0 := Ext.cell_some hxw c0
            have c1 := Ext.cell_some hxw c1
            have c2 := Ext.cell_some hxw c2
            clear hj
            go_simp
            try go_bits
            first | rfl | (rw [if_pos (by omega), if_pos (by omega)]; go_simp; rfl) | (rw [if_pos (by omega)]; go_simp; rfl) | skip
          · have c0 := Ext.cell_some hxw c0
            have c1 := Ext.cell_some hxw c1
            have c2 := Ext.cell_some hxw c2
            clear hj
            go_simp
            try go_bits
            rw [HG.out]
            exact spec_l11Letter_any K n o _ _ hf HD.out.1 HD.out.2.1
          · have c0 := Ext.cell_some hxw c0
            have c1 := Ext.cell_some hxw c1
            have c2 := Ext.cell_some hxw c2
            clear hj
            go_simp
            try go_bits
            first | rfl | (rw [if_pos (by omega), if_pos (by omega)]; go_simp; rfl) | (rw [if_pos (by omega)]; go_simp; rfl) | skip
          · have c0 := Ext.cell_some hxw c0
            have c1 := Ext.cell_some hxw c1
            have c2 := Ext.cell_some hxw c2
            clear hj
            go_simp
            try go_bits
            first | rfl | (rw [if_pos (by omega), if_pos (by omega)]; go_simp; rfl) | (rw [if_pos (by omega)]; go_simp; rfl) | skip
          · have c0 := Ext.cell_some hxw c0
            have c1 := Ext.cell_some hxw c1
            have c2 := Ext.cell_some hxw c2
            clear hj
            go_simp
            try go_bits
            first | rfl | (rw [if_pos (by omega), if_pos (by omega)]; go_simp; rfl) | (rw [if_pos (by omega)]; go_simp; rfl) | skip
          · have c0 := Ext.cell_some hxw c0
            have c1 := Ext.cell_some hxw c1
            have c2 := Ext.cell_some hxw c2
            clear hj
            go_simp
            try go_bits
            first | rfl | (rw [if_pos (by omega), if_pos (by omega)]; go_simp; rfl) | (rw [if_pos (by omega)]; go_simp; rfl) | skip
          · have c0 := Ext.cell_some hxw c0
            have c1 := Ext.cell_some hxw c1
            have c2 := Ext.cell_some hxw c2
            clear hj
            go_simp
            try go_bits
            first | rfl | (rw [if_pos (by omega), if_pos (by omega)]; go_simp; rfl) | (rw [if_pos (by omega)]; go_simp; rfl) | skip
          · have c0 := Ext.cell_some hxw c0
            have c1 := Ext.cell_some hxw c1
            have c2 := Ext.cell_some hxw c2
            clear hj
            go_simp
            try go_bits
            first | rfl | (rw [if_pos (by omega), if_pos (by omega)]; go_simp; rfl) | (rw [if_pos (by omega)]; go_simp; rfl) | skip
          · have c0 := Ext.cell_some hxw c0
            have c1 := Ext.cell_some hxw c1
            have c2 := Ext.cell_some hxw c2
            clear hj
            go_simp
            try go_bits
            first | rfl | (rw [if_pos (by omega), if_pos (by omega)]; go_simp; rfl) | (rw [if_pos (by omega)]; go_simp; rfl) | skip
          · have c0 := Ext.cell_some hxw c0
            have c1 := Ext.cell_some hxw c1
            have c2 := Ext.cell_some hxw c2
            clear hj
            go_simp
            try go_bits
            first | rfl | (rw [if_pos (by omega), if_pos (by omega)]; go_simp; rfl) | (rw [if_pos (by omega)]; go_simp; rfl) | skip
          · have c0 := Ext.cell_some hxw c0
            have c1 := Ext.cell_some hxw c1
            have c2 := Ext.cell_some hxw c2
            clear hj
            go_simp
            try go_bits
            first | rfl | (rw [if_pos (by omega), if_pos (by omega)]; go_simp; rfl) | (rw [if_pos (by omega)]; go_simp; rfl) | skip
          · have c0 := Ext.cell_some hxw c0
            have c1 := Ext.cell_some hxw c1
            have c2 := Ext.cell_some hxw c2
            clear hj
            go_simp
            try go_bits
            first | rfl | (rw [if_pos (by omega), if_pos (by omega)]; go_simp; rfl) | (rw [if_pos (by omega)]; go_simp; rfl) | skip
          · have c0 := Ext.cell_some hxw c0
            have c1 := Ext.cell_some hxw c1
            have c2 := Ext.cell_some hxw c2
            clear hj
            go_simp
            try go_bits
            first | rfl | (rw [if_pos (by omega), if_pos (by omega)]; go_simp; rfl) | (rw [if_pos (by omega)]; go_simp; rfl) | skip
          · have c0 := Ext.cell_some hxw c0
            have c1 := Ext.cell_some hxw c1
            have c2 := Ext.cell_some hxw c2
            clear hj
            go_simp
            try go_bits
            first | rfl | (rw [if_pos (by omega), if_pos (by omega)]; go_simp; rfl) | (rw [if_pos (by omega)]; go_simp; rfl) | skip
          · have c0 := Ext.cell_some hxw c0
            have c1 := Ext.cell_some hxw c1
            have c2 := Ext.cell_some hxw c2
            clear hj
            go_simp
            try go_bits
            first | rfl | (rw [if_pos (by omega), if_pos (by omega)]; go_simp; rfl) | (rw [if_pos (by omega)]; go_simp; rfl) | skip
          · have c0 := Ext.cell_some hxw c0
            have c1 := Ext.cell_some hxw c1
            have c2 := Ext.cell_some hxw c2
            clear hj
            go_simp
            try go_bits
            first | rfl | (rw [if_pos (by omega), if_pos (by omega)]; go_simp; rfl) | (rw [if_pos (by omega)]; go_simp; rfl) | skip
          · have c0 := Ext.cell_some hxw c0
            have c1 := Ext.cell_some hxw c1
            have c2 := Ext.cell_some hxw c2
            clear hj
            go_simp
            try go_bits
            first | rfl | (rw [if_pos (by omega), if_pos (by omega)]; go_simp; rfl) | (rw [if_pos (by omega)]; go_simp; rfl) | skip
        case' hx5_10_p =>
          intro vs w5 hx5 hk
          clear hk
          replace c0 := Ext.cell_some hx5 c0
          replace c1 := Ext.cell_some hx5 c1
          replace c2 := Ext.cell_some hx5 c2
          replace bo := Blk.ext bo hx5
          replace hxw := Ext.trans hxw hx5
          go_simp
          clear hx5 HD HG HC he hes hex has haS
          cases f with
          | zero =>
            have h1b : ((t.size : Int) == (s.size : Int) + (n : Int) - 1) = true := by have := HT.out.2.1; have := HT.out.2.2.1; simp; omega
            have hr : r = some v := by
              rw [HT.out.2.2.2]
              unfold srcS
              rw [HO.out]
              rfl
            have HR := Lib.hid hr
            clear hr
            go_wp2
            go_ret2
            exact ⟨by rw [HR.out, HT.out.1]; rfl, hxw⟩
          | succ f =>
            have h1b : ((t.size : Int) == (s.size : Int) + (n : Int) - 1) = false := by have := HT.out.2.1; have := HT.out.2.2.1; simp; omega
            have hr : r = firstOf K fun x => srcS K n o s.data.toList f (v ++ [letN x]) := by
              rw [HT.out.2.2.2]
              unfold srcS
              rw [HO.out]
              simp [srcL_succ]
            obtain ⟨F, hF⟩ : ∃ F : Nat → Option (List UInt8), F = fun x => srcS K n o s.data.toList f (v ++ [letN x]) := ⟨_, rfl⟩
            rw [← hF] at hr
            have HF := Lib.hid (And.intro hF hr)
            clear hF hr
            go_wp2
            go_loopw [8] (fun i wr => ∃ x : Nat, x ≤ K ∧ i = .int .i64 x ∧ NoneTo F x ∧ Ext w wr ∧ Blk wr w.heap.size #[.int .i64 K, .int .i64 n, .string o]) (fun i _ => K - (intOf i).toNat)
            case atStart => exact ⟨0, by omega, rfl, NoneTo.zero F, hxw, bo⟩
            case round =>
              clear c0 c1 c2 bo hxw
              obtain ⟨x, hx, rfl, hno, hxw, bo⟩ := hrel
              obtain ⟨c0, c1, c2, -, -, -⟩ := bo.c3
              by_cases hlt : x < K
              · have hcat : t ++ mkS [letN x] = mkS (v ++ [letN x]) := by rw [HT.out.1, mkS_append]
                have hp1 : ¬ 9223372036854775807 < t.size + (mkS [letN x]).size := by rw [mkS_size]; simp; omega
                have habc := abc_at x (by omega)
                have hla : areLet K (v ++ [letN x]) = true := by rw [areLet_append, HA.out, isLet_letN' hlt hk3]; rfl
                have hcall := fun w5 => IH.out f rfl (v ++ [letN x]) w5 (by have := HT.out.2.2.1; simp; omega) hla
                have hFx : F x = srcS K n o s.data.toList f (v ++ [letN x]) := by rw [HF.out.1]
                rw [← hFx] at hcall
                clear hFx hla
                have H := Lib.hid hcall
                clear hcall
                cases hq : F x with
                | none =>
                  have hcall : ∀ w5, Calls Try.prog 50 #[.agg #[.int .i64 K, .int .i64 n, .string o], .string s, .string (mkS (v ++ [letN x]))] w5 fun e w' => e = .returned (.tuple #[.string ⟨#[]⟩, .bool false]) ∧ Ext w5 w' := by
                    have h := H.out
                    rw [hq] at h
                    exact h
                  have HQ := Lib.hid (And.intro hq hcall)
                  clear hq hcall H
                  go_wp2
                  refine wp_region_inv (by kernel_rfl) (.known ?hx6_11_v0 :: .known ?hx6_11_v1 :: .known ?hx6_11_v2 :: .known ?hx6_11_v3 :: .known ?hx6_11_v4 :: .known ?hx6_11_v5 :: .known ?hx6_11_v6 :: .known ?hx6_11_v7 :: .known (.tuple #[.string ⟨#[]⟩, .bool false]) :: .known ?hx6_11_v9 :: .known ?hx6_11_v10 :: .known ?hx6_11_v11 :: .known ?hx6_11_v12 :: .known ?hx6_11_v13 :: []) rfl (by kernel_rfl) ?hx6_11_s ?hx6_11_p
                  case hx6_11_s =>
                    intro vs
                    refine ⟨fun w' hxw hj => ?_, fun w' hxw hj => ?_, fun w' hxw hj => ?_, fun w' hxw hj => ?_, fun w' hxw hj => ?_, fun w' hxw hj => ?_, fun w' hxw hj => ?_, fun w' hxw hj => ?_, fun w' hxw hj => ?_, fun w' hxw hj => ?_, fun w' hxw hj => ?_, fun w' hxw hj => ?_, fun w' hxw hj => ?_, fun w' hxw hj => ?_, trivial⟩
                    · have c0 := Ext.cell_some hxw c0
                      have c1 := Ext.cell_some hxw c1
                      have c2 := Ext.cell_some hxw c2
                      clear hj
                      go_simp
                      try go_bits
                      first | rfl | (rw [if_pos (by omega), if_pos (by omega)]; go_simp; rfl) | (rw [if_pos (by omega)]; go_simp; rfl) | skip
                    · have c0 := Ext.cell_some hxw c0
                      have c1 := Ext.cell_some hxw c1
                      have c2 := Ext.cell_some hxw c2
                      clear hj
                      go_simp
                      try go_bits
                      first | rfl | (rw [if_pos (by omega), if_pos (by omega)]; go_simp; rfl) | (rw [if_pos (by omega)]; go_simp; rfl) | skip
                    · have c0 := Ext.cell_some hxw c0
                      have c1 := Ext.cell_some hxw c1
                      have c2 := Ext.cell_some hxw c2
                      clear hj
                      go_simp
                      try go_bits
                      first | rfl | (rw [if_pos (by omega), if_pos (by omega)]; go_simp; rfl) | (rw [if_pos (by omega)]; go_simp; rfl) | skip
                    · have c0 := Ext.cell_some hxw c0
                      have c1 := Ext.cell_some hxw c1
                      have c2 := Ext.cell_some hxw c2
                      clear hj
                      go_simp
                      try go_bits
                      first | rfl | (rw [if_pos (by omega), if_pos (by omega)]; go_simp; rfl) | (rw [if_pos (by omega)]; go_simp; rfl) | skip
                    · have c0 := Ext.cell_some hxw c0
                      have c1 := Ext.cell_some hxw c1
                      have c2 := Ext.cell_some hxw c2
                      clear hj
                      go_simp
                      try go_bits
                      first | rfl | (rw [if_pos (by omega), if_pos (by omega)]; go_simp; rfl) | (rw [if_pos (by omega)]; go_simp; rfl) | skip
                    · have c0 := Ext.cell_some hxw c0
                      have c1 := Ext.cell_some hxw c1
                      have c2 := Ext.cell_some hxw c2
                      clear hj
                      go_simp
                      try go_bits
                      first | rfl | (rw [if_pos (by omega), if_pos (by omega)]; go_simp; rfl) | (rw [if_pos (by omega)]; go_simp; rfl) | skip
                    · have c0 := Ext.cell_some hxw c0
                      have c1 := Ext.cell_some hxw c1
                      have c2 := Ext.cell_some hxw c2
                      clear hj
                      go_simp
                      try go_bits
                      first | rfl | (rw [if_pos (by omega), if_pos (by omega)]; go_simp; rfl) | (rw [if_pos (by omega)]; go_simp; rfl) | skip
                    · have c0 := Ext.cell_some hxw c0
                      have c1 := Ext.cell_some hxw c1
                      have c2 := Ext.cell_some hxw c2
                      clear hj
                      go_simp
                      try go_bits
                      first | rfl | (rw [if_pos (by omega), if_pos (by omega)]; go_simp; rfl) | (rw [if_pos (by omega)]; go_simp; rfl) | skip
                    · have c0 := Ext.cell_some hxw c0
                      have c1 := Ext.cell_some hxw c1
                      have c2 := Ext.cell_some hxw c2
                      clear hj
                      go_simp
                      try go_bits
                      exact HQ.out.2 _
                    · have c0 := Ext.cell_some hxw c0
                      have c1 := Ext.cell_some hxw c1
                      have c2 := Ext.cell_some hxw c2
                      clear hj
                      go_simp
                      try go_bits
                      first | rfl | (rw [if_pos (by omega), if_pos (by omega)]; go_simp; rfl) | (rw [if_pos (by omega)]; go_simp; rfl) | skip
                    · have c0 := Ext.cell_some hxw c0
                      have c1 := Ext.cell_some hxw c1
                      have c2 := Ext.cell_some hxw c2
                      clear hj
                      go_simp
                      try go_bits
                      first | rfl | (rw [if_pos (by omega), if_pos (by omega)]; go_simp; rfl) | (rw [if_pos (by omega)]; go_simp; rfl) | skip
                    · have c0 := Ext.cell_some hxw c0
                      have c1 := Ext.cell_some hxw c1
                      have c2 := Ext.cell_some hxw c2
                      clear hj
                      go_simp
                      try go_bits
                      first | rfl | (rw [if_pos (by omega), if_pos (by omega)]; go_simp; rfl) | (rw [if_pos (by omega)]; go_simp; rfl) | skip
                    · have c0 := Ext.cell_some hxw c0
                      have c1 := Ext.cell_some hxw c1
                      have c2 := Ext.cell_some hxw c2
                      clear hj
                      go_simp
                      try go_bits
                      first | rfl | (rw [if_pos (by omega), if_pos (by omega)]; go_simp; rfl) | (rw [if_pos (by omega)]; go_simp; rfl) | skip
                    · have c0 := Ext.cell_some hxw c0
                      have c1 := Ext.cell_some hxw c1
                      have c2 := Ext.cell_some hxw c2
                      clear hj
                      go_simp
                      try go_bits
                      first | rfl | (rw [if_pos (by omega), if_pos (by omega)]; go_simp; rfl) | (rw [if_pos (by omega)]; go_simp; rfl) | skip
                  case' hx6_11_p =>
                    intro vs w6 hx6 hk
                    clear hk
                    replace c0 := Ext.cell_some hx6 c0
                    replace c1 := Ext.cell_some hx6 c1
                    replace c2 := Ext.cell_some hx6 c2
                    replace bo := Blk.ext bo hx6
                    replace hxw := Ext.trans hxw hx6
                    go_simp
                    clear hx6
                    go_wp2
                    go_roundw
                    case rel => exact ⟨x + 1, by omega, by go_num, hno.succ HQ.out.1, hxw, bo⟩
                    case measure => simp [intOf]; omega
                | some q =>
                  have hcall : ∀ w5, Calls Try.prog 50 #[.agg #[.int .i64 K, .int .i64 n, .string o], .string s, .string (mkS (v ++ [letN x]))] w5 fun e w' => e = .returned (.tuple #[.string (mkS q), .bool true]) ∧ Ext w5 w' := by
                    have h := H.out
                    rw [hq] at h
                    exact h
                  have HQ := Lib.hid (And.intro hq hcall)
                  clear hq hcall H
                  go_wp2
                  refine wp_region_inv (by kernel_rfl) (.known ?hx6_12_v0 :: .known ?hx6_12_v1 :: .known ?hx6_12_v2 :: .known ?hx6_12_v3 :: .known ?hx6_12_v4 :: .known ?hx6_12_v5 :: .known ?hx6_12_v6 :: .known ?hx6_12_v7 :: .known (.tuple #[.string (mkS q), .bool true]) :: .known ?hx6_12_v9 :: .known ?hx6_12_v10 :: .known ?hx6_12_v11 :: .known ?hx6_12_v12 :: .known ?hx6_12_v13 :: []) rfl (by kernel_rfl) ?hx6_12_s ?hx6_12_p
                  case hx6_12_s =>
                    intro vs
                    refine ⟨fun w' hxw hj => ?_, fun w' hxw hj => ?_, fun w' hxw hj => ?_, fun w' hxw hj => ?_, fun w' hxw hj => ?_, fun w' hxw hj => ?_, fun w' hxw hj => ?_, fun w' hxw hj => ?_, fun w' hxw hj => ?_, fun w' hxw hj => ?_, fun w' hxw hj => ?_, fun w' hxw hj => ?_, fun w' hxw hj => ?_, fun w' hxw hj => ?_, trivial⟩
                    · have c0 := Ext.cell_some hxw c0
                      have c1 := Ext.cell_some hxw c1
                      have c2 := Ext.cell_some hxw c2
                      clear hj
                      go_simp
                      try go_bits
                      first | rfl | (rw [if_pos (by omega), if_pos (by omega)]; go_simp; rfl) | (rw [if_pos (by omega)]; go_simp; rfl) | skip
                    · have c0 := Ext.cell_some hxw c0
                      have c1 := Ext.cell_some hxw c1
                      have c2 := Ext.cell_some hxw c2
                      clear hj
                      go_simp
                      try go_bits
                      first | rfl | (rw [if_pos (by omega), if_pos (by omega)]; go_simp; rfl) | (rw [if_pos (by omega)]; go_simp; rfl) | skip
                    · have c0 := Ext.cell_some hxw c0
                      have c1 := Ext.cell_some hxw c1
                      have c2 := Ext.cell_some hxw c2
                      clear hj
                      go_simp
                      try go_bits
                      first | rfl | (rw [if_pos (by omega), if_pos (by omega)]; go_simp; rfl) | (rw [if_pos (by omega)]; go_simp; rfl) | skip
                    · have c0 := Ext.cell_some hxw c0
                      have c1 := Ext.cell_some hxw c1
                      have c2 := Ext.cell_some hxw c2
                      clear hj
                      go_simp
                      try go_bits
                      first | rfl | (rw [if_pos (by omega), if_pos (by omega)]; go_simp; rfl) | (rw [if_pos (by omega)]; go_simp; rfl) | skip
                    · have c0 := Ext.cell_some hxw c0
                      have c1 := Ext.cell_some hxw c1
                      have c2 := Ext.cell_some hxw c2
                      clear hj
                      go_simp
                      try go_bits
                      first | rfl | (rw [if_pos (by omega), if_pos (by omega)]; go_simp; rfl) | (rw [if_pos (by omega)]; go_simp; rfl) | skip
                    · have c0 := Ext.cell_some hxw c0
                      have c1 := Ext.cell_some hxw c1
                      have c2 := Ext.cell_some hxw c2
                      clear hj
                      go_simp
                      try go_bits
                      first | rfl | (rw [if_pos (by omega), if_pos (by omega)]; go_simp; rfl) | (rw [if_pos (by omega)]; go_simp; rfl) | skip
                    · have c0 := Ext.cell_some hxw c0
                      have c1 := Ext.cell_some hxw c1
                      have c2 := Ext.cell_some hxw c2
                      clear hj
                      go_simp
                      try go_bits
                      first | rfl | (rw [if_pos (by omega), if_pos (by omega)]; go_simp; rfl) | (rw [if_pos (by omega)]; go_simp; rfl) | skip
                    · have c0 := Ext.cell_some hxw c0
                      have c1 := Ext.cell_some hxw c1
                      have c2 := Ext.cell_some hxw c2
                      clear hj
                      go_simp
                      try go_bits
                      first | rfl | (rw [if_pos (by omega), if_pos (by omega)]; go_simp; rfl) | (rw [if_pos (by omega)]; go_simp; rfl) | skip
                    · have c0 := Ext.cell_some hxw c0
                      have c1 := Ext.cell_some hxw c1
                      have c2 := Ext.cell_some hxw c2
                      clear hj
                      go_simp
                      try go_bits
                      exact HQ.out.2 _
                    · have c0 := Ext.cell_some hxw c0
                      have c1 := Ext.cell_some hxw c1
                      have c2 := Ext.cell_some hxw c2
                      clear hj
                      go_simp
                      try go_bits
                      first | rfl | (rw [if_pos (by omega), if_pos (by omega)]; go_simp; rfl) | (rw [if_pos (by omega)]; go_simp; rfl) | skip
                    · have c0 := Ext.cell_some hxw c0
                      have c1 := Ext.cell_some hxw c1
                      have c2 := Ext.cell_some hxw c2
                      clear hj
                      go_simp
                      try go_bits
                      first | rfl | (rw [if_pos (by omega), if_pos (by omega)]; go_simp; rfl) | (rw [if_pos (by omega)]; go_simp; rfl) | skip
                    · have c0 := Ext.cell_some hxw c0
                      have c1 := Ext.cell_some hxw c1
                      have c2 := Ext.cell_some hxw c2
                      clear hj
                      go_simp
                      try go_bits
                      first | rfl | (rw [if_pos (by omega), if_pos (by omega)]; go_simp; rfl) | (rw [if_pos (by omega)]; go_simp; rfl) | skip
                    · have c0 := Ext.cell_some hxw c0
                      have c1 := Ext.cell_some hxw c1
                      have c2 := Ext.cell_some hxw c2
                      clear hj
                      go_simp
                      try go_bits
                      first | rfl | (rw [if_pos (by omega), if_pos (by omega)]; go_simp; rfl) | (rw [if_pos (by omega)]; go_simp; rfl) | skip
                    · have c0 := Ext.cell_some hxw c0
                      have c1 := Ext.cell_some hxw c1
                      have c2 := Ext.cell_some hxw c2
                      clear hj
                      go_simp
                      try go_bits
                      first | rfl | (rw [if_pos (by omega), if_pos (by omega)]; go_simp; rfl) | (rw [if_pos (by omega)]; go_simp; rfl) | skip
                  case' hx6_12_p =>
                    intro vs w6 hx6 hk
                    clear hk
                    replace c0 := Ext.cell_some hx6 c0
                    replace c1 := Ext.cell_some hx6 c1
                    replace c2 := Ext.cell_some hx6 c2
                    replace bo := Blk.ext bo hx6
                    replace hxw := Ext.trans hxw hx6
                    go_simp
                    clear hx6
                    go_wp2
                    go_ret2
                    exact ⟨by rw [HF.out.2, firstOf_hit hlt hno HQ.out.1]; rfl, hxw⟩
              · have hxK : x = K := by omega
                subst hxK
                go_wp2
                go_ret2
                exact ⟨by rw [HF.out.2, firstOf_none hno]; rfl, hxw⟩
    case' neg =>
      have hoks : okS K n o s.data.toList v = true := by
        unfold okS
        have e1 : v.length < n := by rw [← HT.out.2.1]; omega
        simp [e1]
      have HO := Lib.hid hoks
      clear hoks
      go_enter Try.func50, Try.ntmps50
      go_wp2
      refine wp_region_inv (by kernel_rfl) (.known ?hx5_13_v0 :: .known ?hx5_13_v1 :: .known ?hx5_13_v2 :: .known ?hx5_13_v3 :: .known ?hx5_13_v4 :: .known ?hx5_13_v5 :: .known ?hx5_13_v6 :: .known ?hx5_13_v7 :: .known ?hx5_13_v8 :: .known ?hx5_13_v9 :: .known ?hx5_13_v10 :: .known ?hx5_13_v11 :: .known ?hx5_13_v12 :: .known ?hx5_13_v13 :: .known ?hx5_13_v14 :: .known ?hx5_13_v15 :: .known ?hx5_13_v16 :: .known ?hx5_13_v17 :: .known ?hx5_13_v18 :: .known ?hx5_13_v19 :: .known ?hx5_13_v20 :: .known ?hx5_13_v21 :: .known ?hx5_13_v22 :: .known ?hx5_13_v23 :: .known ?hx5_13_v24 :: .known ?hx5_13_v25 :: .known ?hx5_13_v26 :: .known ?hx5_13_v27 :: .known ?hx5_13_v28 :: .known ?hx5_13_v29 :: []) rfl (by kernel_rfl) ?hx5_13_s ?hx5_13_p
      case hx5_13_s =>
        intro vs
        refine ⟨fun w' hxw hj => ?_, fun w' hxw hj => ?_, fun w' hxw hj => ?_, fun w' hxw hj => ?_, fun w' hxw hj => ?_, fun w' hxw hj => ?_, fun w' hxw hj => ?_, fun w' hxw hj => ?_, fun w' hxw hj => ?_, fun w' hxw hj => ?_, fun w' hxw hj => ?_, fun w' hxw hj => ?_, fun w' hxw hj => ?_, fun w' hxw hj => ?_, fun w' hxw hj => ?_, fun w' hxw hj => ?_, fun w' hxw hj => ?_, fun w' hxw hj => ?_, fun w' hxw hj => ?_, fun w' hxw hj => ?_, fun w' hxw hj => ?_, fun w' hxw hj => ?_, fun w' hxw hj => ?_, fun w' hxw hj => ?_, fun w' hxw hj => ?_, fun w' hxw hj => ?_, fun w' hxw hj => ?_, fun w' hxw hj => ?_, fun w' hxw hj => ?_, fun w' hxw hj => ?_, trivial⟩
        · have c0 := Ext.cell_some hxw c0
          have c1 := Ext.cell_some hxw c1
          have c2 := Ext.cell_some hxw c2
          clear hj
          go_simp
          try go_bits
          first | rfl | (rw [if_pos (by omega), if_pos (by omega)]; go_simp; rfl) | (rw [if_pos (by omega)]; go_simp; rfl) | skip
        · have c0 := Ext.cell_some hxw c0
          have c1 := Ext.cell_some hxw c1
          have c2 := Ext.cell_some hxw c2
          clear hj
          go_simp
          try go_bits
          first | rfl | (rw [if_pos (by omega), if_pos (by omega)]; go_simp; rfl) | (rw [if_pos (by omega)]; go_simp; rfl) | skip
        · have c0 := Ext.cell_some hxw c0
          have c1 := Ext.cell_some hxw c1
          have c2 := Ext.cell_some hxw c2
          clear hj
          go_simp
          try go_bits
          first | rfl | (rw [if_pos (by omega), if_pos (by omega)]; go_simp; rfl) | (rw [if_pos (by omega)]; go_simp; rfl) | skip
        · have c0 := Ext.cell_some hxw c0
          have c1 := Ext.cell_some hxw c1
          have c2 := Ext.cell_some hxw c2
          clear hj
          go_simp
          try go_bits
          first | rfl | (rw [if_pos (by omega), if_pos (by omega)]; go_simp; rfl) | (rw [if_pos (by omega)]; go_simp; rfl) | skip
        · have c0 := Ext.cell_some hxw c0
          have c1 := Ext.cell_some hxw c1
          have c2 := Ext.cell_some hxw c2
          clear hj
          go_simp
          try go_bits
          first | rfl | (rw [if_pos (by omega), if_pos (by omega)]; go_simp; rfl) | (rw [if_pos (by omega)]; go_simp; rfl) | skip
        · have c0 := Ext.cell_some hxw c0
          have c1 := Ext.cell_some hxw c1
          have c2 := Ext.cell_some hxw c2
          clear hj
          go_simp
          try go_bits
          first | rfl | (rw [if_pos (by omega), if_pos (by omega)]; go_simp; rfl) | (rw [if_pos (by omega)]; go_simp; rfl) | skip
        · have c0 := Ext.cell_some hxw c0
          have c1 := Ext.cell_some hxw c1
          have c2 := Ext.cell_some hxw c2
          clear hj
          go_simp
          try go_bits
          first | rfl | (rw [if_pos (by omega), if_pos (by omega)]; go_simp; rfl) | (rw [if_pos (by omega)]; go_simp; rfl) | skip
        · have c0 := Ext.cell_some hxw c0
          have c1 := Ext.cell_some hxw c1
          have c2 := Ext.cell_some hxw c2
          clear hj
          go_simp
          try go_bits
          first | rfl | (rw [if_pos (by omega), if_pos (by omega)]; go_simp; rfl) | (rw [if_pos (by omega)]; go_simp; rfl) | skip
        · have c0 := Ext.cell_some hxw c0
          have c1 := Ext.cell_some hxw c1
          have c2 := Ext.cell_some hxw c2
          clear hj
          go_simp
          try go_bits
          first | rfl | (rw [if_pos (by omega), if_pos (by omega)]; go_simp; rfl) | (rw [if_pos (by omega)]; go_simp; rfl) | skip
        · have c0 := Ext.cell_some hxw c0
          have c1 := Ext.cell_some hxw c1
          have c2 := Ext.cell_some hxw c2
          clear hj
          go_simp
          try go_bits
          first | rfl | (rw [if_pos (by omega), if_pos (by omega)]; go_simp; rfl) | (rw [if_pos (by omega)]; go_simp; rfl) | skip
        · have c0 := Ext.cell_some hxw c0
          have c1 := Ext.cell_some hxw c1
          have c2 := Ext.cell_some hxw c2
          clear hj
          go_simp
          try go_bits
          first | rfl | (rw [if_pos (by omega), if_pos (by omega)]; go_simp; rfl) | (rw [if_pos (by omega)]; go_simp; rfl) | skip
        · have c0 := Ext.cell_some hxw c0
          have c1 := Ext.cell_some hxw c1
          have c2 := Ext.cell_some hxw c2
          clear hj
          go_simp
          try go_bits
          first | rfl | (rw [if_pos (by omega), if_pos (by omega)]; go_simp; rfl) | (rw [if_pos (by omega)]; go_simp; rfl) | skip
        · have c0 := Ext.cell_some hxw c0
          have c1 := Ext.cell_some hxw c1
          have c2 := Ext.cell_some hxw c2
          clear hj
          go_simp
          try go_bits
          first | rfl | (rw [if_pos (by omega), if_pos (by omega)]; go_simp; rfl) | (rw [if_pos (by omega)]; go_simp; rfl) | skip
        · have c0 := Ext.cell_some hxw c0
          have c1 := Ext.cell_some hxw c1
          have c2 := Ext.cell_some hxw c2
          clear hj
          go_simp
          try go_bits
          first | rfl | (rw [if_pos (by omega), if_pos (by omega)]; go_simp; rfl) | (rw [if_pos (by omega)]; go_simp; rfl) | skip
        · have c0 := Ext.cell_some hxw c0
          have c1 := Ext.cell_some hxw c1
          have c2 := Ext.cell_some hxw c2
          clear hj
          go_simp
          try go_bits
          first | rfl | (rw [if_pos (by omega), if_pos (by omega)]; go_simp; rfl) | (rw [if_pos (by omega)]; go_simp; rfl) | skip
        · have c0 := Ext.cell_some hxw c0
          have c1 := Ext.cell_some hxw c1
          have c2 := Ext.cell_some hxw c2
          clear hj
          go_simp
          try go_bits
          first | rfl | (rw [if_pos (by omega), if_pos (by omega)]; go_simp; rfl) | (rw [if_pos (by omega)]; go_simp; rfl) | skip
        · have c0 := Ext.cell_some hxw c0
          have c1 := Ext.cell_some hxw c1
          have c2 := Ext.cell_some hxw c2
          clear hj
          go_simp
          try go_bits
          first | rfl | (rw [if_pos (by omega), if_pos (by omega)]; go_simp; rfl) | (rw [if_pos (by omega)]; go_simp; rfl) | skip
        · have c0 := Ext.cell_some hxw c0
          have c1 := Ext.cell_some hxw c1
          have c2 := Ext.cell_some hxw c2
          clear hj
          go_simp
          try go_bits
          first | rfl | (rw [if_pos (by omega), if_pos (by omega)]; go_simp; rfl) | (rw [if_pos (by omega)]; go_simp; rfl) | skip
        · have c0 := Ext.cell_some hxw c0
          have c1 := Ext.cell_some hxw c1
          have c2 := Ext.cell_some hxw c2
          clear hj
          go_simp
          try go_bits
          first | rfl | (rw [if_pos (by omega), if_pos (by omega)]; go_simp; rfl) | (rw [if_pos (by omega)]; go_simp; rfl) | skip
        · have c0 := Ext.cell_some hxw c0
          have c1 := Ext.cell_some hxw c1
          have c2 := Ext.cell_some hxw c2
          clear hj
          go_simp
          try go_bits
          first | rfl | (rw [if_pos (by omega), if_pos (by omega)]; go_simp; rfl) | (rw [if_pos (by omega)]; go_simp; rfl) | skip
        · have c0 := Ext.cell_some hxw c0
          have c1 := Ext.cell_some hxw c1
          have c2 := Ext.cell_some hxw c2
          clear hj
          go_simp
          try go_bits
          first | rfl | (rw [if_pos (by omega), if_pos (by omega)]; go_simp; rfl) | (rw [if_pos (by omega)]; go_simp; rfl) | skip
        · have c0 := Ext.cell_some hxw c0
          have c1 := Ext.cell_some hxw c1
          have c2 := Ext.cell_some hxw c2
          clear hj
          go_simp
          try go_bits
          first | rfl | (rw [if_pos (by omega), if_pos (by omega)]; go_simp; rfl) | (rw [if_pos (by omega)]; go_simp; rfl) | skip
        · have c0 := Ext.cell_some hxw c0
          have c1 := Ext.cell_some hxw c1
          have c2 := Ext.cell_some hxw c2
          clear hj
          go_simp
          try go_bits
          first | rfl | (rw [if_pos (by omega), if_pos (by omega)]; go_simp; rfl) | (rw [if_pos (by omega)]; go_simp; rfl) | skip
        · have c0 := Ext.cell_some hxw c0
          have c1 := Ext.cell_some hxw c1
          have c2 := Ext.cell_some hxw c2
          clear hj
          go_simp
          try go_bits
          first | rfl | (rw [if_pos (by omega), if_pos (by omega)]; go_simp; rfl) | (rw [if_pos (by omega)]; go_simp; rfl) | skip
        · have c0 := Ext.cell_some hxw c0
          have c1 := Ext.cell_some hxw c1
          have c2 := Ext.cell_some hxw c2
          clear hj
          go_simp
          try go_bits
          first | rfl | (rw [if_pos (by omega), if_pos (by omega)]; go_simp; rfl) | (rw [if_pos (by omega)]; go_simp; rfl) | skip
        · have c0 := Ext.cell_some hxw c0
          have c1 := Ext.cell_some hxw c1
          have c2 := Ext.cell_some hxw c2
          clear hj
          go_simp
          try go_bits
          first | rfl | (rw [if_pos (by omega), if_pos (by omega)]; go_simp; rfl) | (rw [if_pos (by omega)]; go_simp; rfl) | skip
        · have c0 := Ext.cell_some hxw c0
          have c1 := Ext.cell_some hxw c1
          have c2 := Ext.cell_some hxw c2
          clear hj
          go_simp
          try go_bits
          first | rfl | (rw [if_pos (by omega), if_pos (by omega)]; go_simp; rfl) | (rw [if_pos (by omega)]; go_simp; rfl) | skip
        · have c0 := Ext.cell_some hxw c0
          have c1 := Ext.cell_some hxw c1
          have c2 := Ext.cell_some hxw c2
          clear hj
          go_simp
          try go_bits
          first | rfl | (rw [if_pos (by omega), if_pos (by omega)]; go_simp; rfl) | (rw [if_pos (by omega)]; go_simp; rfl) | skip
        · have c0 := Ext.cell_some hxw c0
          have c1 := Ext.cell_some hxw c1
          have c2 := Ext.cell_some hxw c2
          clear hj
          go_simp
          try go_bits
          first | rfl | (rw [if_pos (by omega), if_pos (by omega)]; go_simp; rfl) | (rw [if_pos (by omega)]; go_simp; rfl) | skip
        · have c0 := Ext.cell_some hxw c0
          have c1 := Ext.cell_some hxw c1
          have c2 := Ext.cell_some hxw c2
          clear hj
          go_simp
          try go_bits
          first | rfl | (rw [if_pos (by omega), if_pos (by omega)]; go_simp; rfl) | (rw [if_pos (by omega)]; go_simp; rfl) | skip
      case' hx5_13_p =>
        intro vs w5 hx5 hk
        clear hk
        replace c0 := Ext.cell_some hx5 c0
        replace c1 := Ext.cell_some hx5 c1
        replace c2 := Ext.cell_some hx5 c2
        replace bo := Blk.ext bo hx5
        replace hxw := Ext.trans hxw hx5
        go_simp
        clear hx5
        cases f with
        | zero =>
          have h1b : ((t.size : Int) == (s.size : Int) + (n : Int) - 1) = true := by have := HT.out.2.1; have := HT.out.2.2.1; simp; omega
          have hr : r = some v := by
            rw [HT.out.2.2.2]
            unfold srcS
            rw [HO.out]
            rfl
          have HR := Lib.hid hr
          clear hr
          go_wp2
          go_ret2
          exact ⟨by rw [HR.out, HT.out.1]; rfl, hxw⟩
        | succ f =>
          have h1b : ((t.size : Int) == (s.size : Int) + (n : Int) - 1) = false := by have := HT.out.2.1; have := HT.out.2.2.1; simp; omega
          have hr : r = firstOf K fun x => srcS K n o s.data.toList f (v ++ [letN x]) := by
            rw [HT.out.2.2.2]
            unfold srcS
            rw [HO.out]
            simp [srcL_succ]
          obtain ⟨F, hF⟩ : ∃ F : Nat → Option (List UInt8), F = fun x => srcS K n o s.data.toList f (v ++ [letN x]) := ⟨_, rfl⟩
          rw [← hF] at hr
          have HF := Lib.hid (And.intro hF hr)
          clear hF hr
          go_wp2
          go_loopw [8] (fun i wr => ∃ x : Nat, x ≤ K ∧ i = .int .i64 x ∧ NoneTo F x ∧ Ext w wr ∧ Blk wr w.heap.size #[.int .i64 K, .int .i64 n, .string o]) (fun i _ => K - (intOf i).toNat)
          case atStart => exact ⟨0, by omega, rfl, NoneTo.zero F, hxw, bo⟩
          case round =>
            clear c0 c1 c2 bo hxw
            obtain ⟨x, hx, rfl, hno, hxw, bo⟩ := hrel
            obtain ⟨c0, c1, c2, -, -, -⟩ := bo.c3
            by_cases hlt : x < K
            · have hcat : t ++ mkS [letN x] = mkS (v ++ [letN x]) := by rw [HT.out.1, mkS_append]
              have hp1 : ¬ 9223372036854775807 < t.size + (mkS [letN x]).size := by rw [mkS_size]; simp; omega
              have habc := abc_at x (by omega)
              have hla : areLet K (v ++ [letN x]) = true := by rw [areLet_append, HA.out, isLet_letN' hlt hk3]; rfl
              have hcall := fun w5 => IH.out f rfl (v ++ [letN x]) w5 (by have := HT.out.2.2.1; simp; omega) hla
              have hFx : F x = srcS K n o s.data.toList f (v ++ [letN x]) := by rw [HF.out.1]
              rw [← hFx] at hcall
              clear hFx hla
              have H := Lib.hid hcall
              clear hcall
              cases hq : F x with
              | none =>
                have hcall : ∀ w5, Calls Try.prog 50 #[.agg #[.int .i64 K, .int .i64 n, .string o], .string s, .string (mkS (v ++ [letN x]))] w5 fun e w' => e = .returned (.tuple #[.string ⟨#[]⟩, .bool false]) ∧ Ext w5 w' := by
                  have h := H.out
                  rw [hq] at h
                  exact h
                have HQ := Lib.hid (And.intro hq hcall)
                clear hq hcall H
                go_wp2
                refine wp_region_inv (by kernel_rfl) (.known ?hx6_14_v0 :: .known ?hx6_14_v1 :: .known ?hx6_14_v2 :: .known ?hx6_14_v3 :: .known ?hx6_14_v4 :: .known ?hx6_14_v5 :: .known ?hx6_14_v6 :: .known ?hx6_14_v7 :: .known (.tuple #[.string ⟨#[]⟩, .bool false]) :: .known ?hx6_14_v9 :: .known ?hx6_14_v10 :: .known ?hx6_14_v11 :: .known ?hx6_14_v12 :: .known ?hx6_14_v13 :: []) rfl (by kernel_rfl) ?hx6_14_s ?hx6_14_p
                case hx6_14_s =>
                  intro vs
                  refine ⟨fun w' hxw hj => ?_, fun w' hxw hj => ?_, fun w' hxw hj => ?_, fun w' hxw hj => ?_, fun w' hxw hj => ?_, fun w' hxw hj => ?_, fun w' hxw hj => ?_, fun w' hxw hj => ?_, fun w' hxw hj => ?_, fun w' hxw hj => ?_, fun w' hxw hj => ?_, fun w' hxw hj => ?_, fun w' hxw hj => ?_, fun w' hxw hj => ?_, trivial⟩
                  · have c0 := Ext.cell_some hxw c0
                    have c1 := Ext.cell_some hxw c1
                    have c2 := Ext.cell_some hxw c2
                    clear hj
                    go_simp
                    try go_bits
                    first | rfl | (rw [if_pos (by omega), if_pos (by omega)]; go_simp; rfl) | (rw [if_pos (by omega)]; go_simp; rfl) | skip
                  · have c0 := Ext.cell_some hxw c0
                    have c1 := Ext.cell_some hxw c1
                    have c2 := Ext.cell_some hxw c2
                    clear hj
                    go_simp
                    try go_bits
                    first | rfl | (rw [if_pos (by omega), if_pos (by omega)]; go_simp; rfl) | (rw [if_pos (by omega)]; go_simp; rfl) | skip
                  · have c0 := Ext.cell_some hxw c0
                    have c1 := Ext.cell_some hxw c1
                    have c2 := Ext.cell_some hxw c2
                    clear hj
                    go_simp
                    try go_bits
                    first | rfl | (rw [if_pos (by omega), if_pos (by omega)]; go_simp; rfl) | (rw [if_pos (by omega)]; go_simp; rfl) | skip
                  · have c0 := Ext.cell_some hxw c0
                    have c1 := Ext.cell_some hxw c1
                    have c2 := Ext.cell_some hxw c2
                    clear hj
                    go_simp
                    try go_bits
                    first | rfl | (rw [if_pos (by omega), if_pos (by omega)]; go_simp; rfl) | (rw [if_pos (by omega)]; go_simp; rfl) | skip
                  · have c0 := Ext.cell_some hxw c0
                    have c1 := Ext.cell_some hxw c1
                    have c2 := Ext.cell_some hxw c2
                    clear hj
                    go_simp
                    try go_bits
                    first | rfl | (rw [if_pos (by omega), if_pos (by omega)]; go_simp; rfl) | (rw [if_pos (by omega)]; go_simp; rfl) | skip
                  · have c0 := Ext.cell_some hxw c0
                    have c1 := Ext.cell_some hxw c1
                    have c2 := Ext.cell_some hxw c2
                    clear hj
                    go_simp
                    try go_bits
                    first | rfl | (rw [if_pos (by omega), if_pos (by omega)]; go_simp; rfl) | (rw [if_pos (by omega)]; go_simp; rfl) | skip
                  · have c0 := Ext.cell_some hxw c0
                    have c1 := Ext.cell_some hxw c1
                    have c2 := Ext.cell_some hxw c2
                    clear hj
                    go_simp
                    try go_bits
                    first | rfl | (rw [if_pos (by omega), if_pos (by omega)]; go_simp; rfl) | (rw [if_pos (by omega)]; go_simp; rfl) | skip
                  · have c0 := Ext.cell_some hxw c0
                    have c1 := Ext.cell_some hxw c1
                    have c2 := Ext.cell_some hxw c2
                    clear hj
                    go_simp
                    try go_bits
                    first | rfl | (rw [if_pos (by omega), if_pos (by omega)]; go_simp; rfl) | (rw [if_pos (by omega)]; go_simp; rfl) | skip
                  · have c0 := Ext.cell_some hxw c0
                    have c1 := Ext.cell_some hxw c1
                    have c2 := Ext.cell_some hxw c2
                    clear hj
                    go_simp
                    try go_bits
                    exact HQ.out.2 _
                  · have c0 := Ext.cell_some hxw c0
                    have c1 := Ext.cell_some hxw c1
                    have c2 := Ext.cell_some hxw c2
                    clear hj
                    go_simp
                    try go_bits
                    first | rfl | (rw [if_pos (by omega), if_pos (by omega)]; go_simp; rfl) | (rw [if_pos (by omega)]; go_simp; rfl) | skip
                  · have c0 := Ext.cell_some hxw c0
                    have c1 := Ext.cell_some hxw c1
                    have c2 := Ext.cell_some hxw c2
                    clear hj
                    go_simp
                    try go_bits
                    first | rfl | (rw [if_pos (by omega), if_pos (by omega)]; go_simp; rfl) | (rw [if_pos (by omega)]; go_simp; rfl) | skip
                  · have c0 := Ext.cell_some hxw c0
                    have c1 := Ext.cell_some hxw c1
                    have c2 := Ext.cell_some hxw c2
                    clear hj
                    go_simp
                    try go_bits
                    first | rfl | (rw [if_pos (by omega), if_pos (by omega)]; go_simp; rfl) | (rw [if_pos (by omega)]; go_simp; rfl) | skip
                  · have c0 := Ext.cell_some hxw c0
                    have c1 := Ext.cell_some hxw c1
                    have c2 := Ext.cell_some hxw c2
                    clear hj
                    go_simp
                    try go_bits
                    first | rfl | (rw [if_pos (by omega), if_pos (by omega)]; go_simp; rfl) | (rw [if_pos (by omega)]; go_simp; rfl) | skip
                  · have c0 := Ext.cell_some hxw c0
                    have c1 := Ext.cell_some hxw c1
                    have c2 := Ext.cell_some hxw c2
                    clear hj
                    go_simp
                    try go_bits
                    first | rfl | (rw [if_pos (by omega), if_pos (by omega)]; go_simp; rfl) | (rw [if_pos (by omega)]; go_simp; rfl) | skip
                case' hx6_14_p =>
                  intro vs w6 hx6 hk
                  clear hk
                  replace c0 := Ext.cell_some hx6 c0
                  replace c1 := Ext.cell_some hx6 c1
                  replace c2 := Ext.cell_some hx6 c2
                  replace bo := Blk.ext bo hx6
                  replace hxw := Ext.trans hxw hx6
                  go_simp
                  clear hx6
                  go_wp2
                  go_roundw
                  case rel => exact ⟨x + 1, by omega, by go_num, hno.succ HQ.out.1, hxw, bo⟩
                  case measure => simp [intOf]; omega
              | some q =>
                have hcall : ∀ w5, Calls Try.prog 50 #[.agg #[.int .i64 K, .int .i64 n, .string o], .string s, .string (mkS (v ++ [letN x]))] w5 fun e w' => e = .returned (.tuple #[.string (mkS q), .bool true]) ∧ Ext w5 w' := by
                  have h := H.out
                  rw [hq] at h
                  exact h
                have HQ := Lib.hid (And.intro hq hcall)
                clear hq hcall H
                go_wp2
                refine wp_region_inv (by kernel_rfl) (.known ?hx6_15_v0 :: .known ?hx6_15_v1 :: .known ?hx6_15_v2 :: .known ?hx6_15_v3 :: .known ?hx6_15_v4 :: .known ?hx6_15_v5 :: .known ?hx6_15_v6 :: .known ?hx6_15_v7 :: .known (.tuple #[.string (mkS q), .bool true]) :: .known ?hx6_15_v9 :: .known ?hx6_15_v10 :: .known ?hx6_15_v11 :: .known ?hx6_15_v12 :: .known ?hx6_15_v13 :: []) rfl (by kernel_rfl) ?hx6_15_s ?hx6_15_p
                case hx6_15_s =>
                  intro vs
                  refine ⟨fun w' hxw hj => ?_, fun w' hxw hj => ?_, fun w' hxw hj => ?_, fun w' hxw hj => ?_, fun w' hxw hj => ?_, fun w' hxw hj => ?_, fun w' hxw hj => ?_, fun w' hxw hj => ?_, fun w' hxw hj => ?_, fun w' hxw hj => ?_, fun w' hxw hj => ?_, fun w' hxw hj => ?_, fun w' hxw hj => ?_, fun w' hxw hj => ?_, trivial⟩
                  · have c0 := Ext.cell_some hxw c0
                    have c1 := Ext.cell_some hxw c1
                    have c2 := Ext.cell_some hxw c2
                    clear hj
                    go_simp
                    try go_bits
                    first | rfl | (rw [if_pos (by omega), if_pos (by omega)]; go_simp; rfl) | (rw [if_pos (by omega)]; go_simp; rfl) | skip
                  · have c0 := Ext.cell_some hxw c0
                    have c1 := Ext.cell_some hxw c1
                    have c2 := Ext.cell_some hxw c2
                    clear hj
                    go_simp
                    try go_bits
                    first | rfl | (rw [if_pos (by omega), if_pos (by omega)]; go_simp; rfl) | (rw [if_pos (by omega)]; go_simp; rfl) | skip
                  · have c0 := Ext.cell_some hxw c0
                    have c1 := Ext.cell_some hxw c1
                    have c2 := Ext.cell_some hxw c2
                    clear hj
                    go_simp
                    try go_bits
                    first | rfl | (rw [if_pos (by omega), if_pos (by omega)]; go_simp; rfl) | (rw [if_pos (by omega)]; go_simp; rfl) | skip
                  · have c0 := Ext.cell_some hxw c0
                    have c1 := Ext.cell_some hxw c1
                    have c2 := Ext.cell_some hxw c2
                    clear hj
                    go_simp
                    try go_bits
                    first | rfl | (rw [if_pos (by omega), if_pos (by omega)]; go_simp; rfl) | (rw [if_pos (by omega)]; go_simp; rfl) | skip
                  · have c0 := Ext.cell_some hxw c0
                    have c1 := Ext.cell_some hxw c1
                    have c2 := Ext.cell_some hxw c2
                    clear hj
                    go_simp
                    try go_bits
                    first | rfl | (rw [if_pos (by omega), if_pos (by omega)]; go_simp; rfl) | (rw [if_pos (by omega)]; go_simp; rfl) | skip
                  · have c0 := Ext.cell_some hxw c0
                    have c1 := Ext.cell_some hxw c1
                    have c2 := Ext.cell_some hxw c2
                    clear hj
                    go_simp
                    try go_bits
                    first | rfl | (rw [if_pos (by omega), if_pos (by omega)]; go_simp; rfl) | (rw [if_pos (by omega)]; go_simp; rfl) | skip
                  · have c0 := Ext.cell_some hxw c0
                    have c1 := Ext.cell_some hxw c1
                    have c2 := Ext.cell_some hxw c2
                    clear hj
                    go_simp
                    try go_bits
                    first | rfl | (rw [if_pos (by omega), if_pos (by omega)]; go_simp; rfl) | (rw [if_pos (by omega)]; go_simp; rfl) | skip
                  · have c0 := Ext.cell_some hxw c0
                    have c1 := Ext.cell_some hxw c1
                    have c2 := Ext.cell_some hxw c2
                    clear hj
                    go_simp
                    try go_bits
                    first | rfl | (rw [if_pos (by omega), if_pos (by omega)]; go_simp; rfl) | (rw [if_pos (by omega)]; go_simp; rfl) | skip
                  · have c0 := Ext.cell_some hxw c0
                    have c1 := Ext.cell_some hxw c1
                    have c2 := Ext.cell_some hxw c2
                    clear hj
                    go_simp
                    try go_bits
                    exact HQ.out.2 _
                  · have c0 := Ext.cell_some hxw c0
                    have c1 := Ext.cell_some hxw c1
                    have c2 := Ext.cell_some hxw c2
                    clear hj
                    go_simp
                    try go_bits
                    first | rfl | (rw [if_pos (by omega), if_pos (by omega)]; go_simp; rfl) | (rw [if_pos (by omega)]; go_simp; rfl) | skip
                  · have c0 := Ext.cell_some hxw c0
                    have c1 := Ext.cell_some hxw c1
                    have c2 := Ext.cell_some hxw c2
                    clear hj
                    go_simp
                    try go_bits
                    first | rfl | (rw [if_pos (by omega), if_pos (by omega)]; go_simp; rfl) | (rw [if_pos (by omega)]; go_simp; rfl) | skip
                  · have c0 := Ext.cell_some hxw c0
                    have c1 := Ext.cell_some hxw c1
                    have c2 := Ext.cell_some hxw c2
                    clear hj
                    go_simp
                    try go_bits
                    first | rfl | (rw [if_pos (by omega), if_pos (by omega)]; go_simp; rfl) | (rw [if_pos (by omega)]; go_simp; rfl) | skip
                  · have c0 := Ext.cell_some hxw c0
                    have c1 := Ext.cell_some hxw c1
                    have c2 := Ext.cell_some hxw c2
                    clear hj
                    go_simp
                    try go_bits
                    first | rfl | (rw [if_pos (by omega), if_pos (by omega)]; go_simp; rfl) | (rw [if_pos (by omega)]; go_simp; rfl) | skip
                  · have c0 := Ext.cell_some hxw c0
                    have c1 := Ext.cell_some hxw c1
                    have c2 := Ext.cell_some hxw c2
                    clear hj
                    go_simp
                    try go_bits
                    first | rfl | (rw [if_pos (by omega), if_pos (by omega)]; go_simp; rfl) | (rw [if_pos (by omega)]; go_simp; rfl) | skip
                case' hx6_15_p =>
                  intro vs w6 hx6 hk
                  clear hk
                  replace c0 := Ext.cell_some hx6 c0
                  replace c1 := Ext.cell_some hx6 c1
                  replace c2 := Ext.cell_some hx6 c2
                  replace bo := Blk.ext bo hx6
                  replace hxw := Ext.trans hxw hx6
                  go_simp
                  clear hx6
                  go_wp2
                  go_ret2
                  exact ⟨by rw [HF.out.2, firstOf_hit hlt hno HQ.out.1]; rfl, hxw⟩
            · have hxK : x = K := by omega
              subst hxK
              go_wp2
              go_ret2
              exact ⟨by rw [HF.out.2, firstOf_none hno]; rfl, hxw⟩

theorem spec_l12First_any (K n : Nat) (o s : ByteArray) (hf : CodeFit K n o) (hs : s.size ≤ 8) : ∀ (f : Nat) (v : List UInt8) (w : World), v.length + f + 1 = s.size + n → areLet K v = true →
    Calls Try.prog 50 #[.agg #[.int .i64 K, .int .i64 n, .string o], .string s, .string (mkS v)] w fun e w' => e = .returned (srcV (srcS K n o s.data.toList f v)) ∧ Ext w w'
  | 0, v, w, hv, ha => spec_l12First_step K n o s hf hs 0 v w hv ha (fun f' heq => by omega)
  | f + 1, v, w, hv, ha => by
    refine spec_l12First_step K n o s hf hs (f + 1) v w hv ha fun f' heq => ?_
    have e : f = f' := by omega
    subst e
    exact spec_l12First_any K n o s hf hs f
end Go.Proofs.Ytfkdpeifnfpldaa

/- Contracts: the reference's table of a code that undoes another one but for a place. -/
import Derived.Test.YtfkdpeifnfpldaaUndoA
import Derived.Test.YtfkdpeifnfpldaaFstA
import Derived.Test.YtfkdpeifnfpldaaApplyD
import Derived.Test.YtfkdpeifnfpldaaPkC
namespace Go.Proofs.Ytfkdpeifnfpldaa
open Go.RowKit Go.Cm

set_option maxHeartbeats 400000 in
theorem spec_l13Number_any (K : Nat) (s : ByteArray) (w : World) (hK0 : 0 < K) (hK : K ≤ 3) (hs : s.size ≤ 16) (ha : areLet K s.data.toList = true) :
    Calls Try.prog 94 #[.int .i64 K, .string s] w fun e w' => e = .returned (.int .i64 (idxL K s.data.toList)) ∧ w = w' := by
  have HA := Lib.hid ha
  clear ha
  go_enter Try.func94, Try.ntmps94
  go_wp2
  go_loop [5, 6] (fun x i => ∃ k : Nat, k ≤ s.size ∧ i = .int .i64 k ∧ x = .int .i64 (idxL K (s.data.toList.take k))) (fun _ i => s.size - (intOf i).toNat)
  case atStart => exact ⟨0, by omega, rfl, by simp [idxL]⟩
  case round =>
    obtain ⟨k, hk, rfl, rfl⟩ := hrel
    by_cases hlt : k < s.size
    · have hb := s[k].toNat_lt
      have hlet : isLet K s[k] = true := by
        have h1 := HA.out
        unfold areLet at h1
        rw [List.all_eq_true] at h1
        refine h1 _ ?_
        have : s.data.toList[k]'(by simpa using hlt) = s[k] := rfl
        rw [← this]; exact List.getElem_mem _
      simp only [isLet, Bool.and_eq_true, decide_eq_true_eq] at hlet
      obtain ⟨hl1, hl2⟩ := hlet
      have hi : idxL K (s.data.toList.take k) < 43046721 := by
        have h1 := idxL_lt K (s.data.toList.take k) (by
          have h1 := HA.out
          unfold areLet at *
          rw [List.all_eq_true] at *
          intro c hc
          exact h1 c (List.mem_of_mem_take hc))
        have h2 : (s.data.toList.take k).length ≤ 16 := by simp; omega
        have h3 : K ^ (s.data.toList.take k).length ≤ 3 ^ 16 := Nat.le_trans (Nat.pow_le_pow_left hK _) (Nat.pow_le_pow_right (by omega) h2)
        have h4 : (3 : Nat) ^ 16 = 43046721 := by decide
        omega
      have hs1 := take_snoc s k hlt
      obtain ⟨x, hx⟩ : ∃ x, x = idxL K (s.data.toList.take k) := ⟨_, rfl⟩
      have hx2 : idxL K (s.data.toList.take (k + 1)) = x * K + (s[k].toNat - 97) := by rw [hs1, idxL_snoc, hx]
      rw [← hx] at hi ⊢
      have HX := Lib.hid hx2
      have hm0 : (0 : Int) ≤ (x : Int) * (K : Int) := Int.mul_nonneg (by omega) (by omega)
      have hm1 : (x : Int) * (K : Int) ≤ 129140163 := by
        have : x * K ≤ 43046721 * 3 := Nat.mul_le_mul (by omega) hK
        have h2 : ((x * K : Nat) : Int) ≤ 129140163 := by omega
        simpa using h2
      clear hs1 hx hx2
      go_wp2
      go_round
      case rel => exact ⟨k + 1, by omega, by go_num, by rw [HX.out]; first | (congr 1; simp; omega) | go_num⟩
      case measure => simp [intOf]; omega
    · have : k = s.size := by omega
      subst this
      have ht := take_all s
      rw [ht]
      clear ht
      go_wp2
      go_ret
      exact ⟨rfl, rfl⟩

set_option maxRecDepth 100000 in
set_option maxHeartbeats 4000000 in
theorem spec_l13Try_any (K n m a : Nat) (o : ByteArray) (w : World) (hf : CodeFit K n o) (hm1 : 1 ≤ m) (hm4 : m ≤ 4) (hm27 : K ^ m ≤ 27) (ham : a < n + m - 1) :
    Calls Try.prog 67 #[.agg #[.int .i64 K, .int .i64 n, .string o], .int .i64 m, .int .i64 a] w fun e w' => e = .returned (srcV (undoL K n m a o)) ∧ Ext w w' := by
  have hk2 := hf.k2
  have hk3 := hf.k3
  have hn1 := hf.n1
  have hn4 := hf.n4
  have hWs := undo_small hk2 hf.le hm27 hn1
  obtain ⟨M, hM⟩ : ∃ M, M = K ^ m := ⟨_, rfl⟩
  obtain ⟨V, hV⟩ : ∃ V, V = K ^ (n + m - 1) := ⟨_, rfl⟩
  have hpw := spec_l11Power_any (K : Int) (m : Int)
  have hpw : ∀ w, Calls Try.prog 61 #[.int .i64 K, .int .i64 m] w fun e w' => e = .returned (.int .i64 (M : Nat)) ∧ w = w' := by
    intro w
    have h := hpw w (by omega) (by omega) (by omega) (by omega)
    rw [pw_nat, ← hM] at h
    exact h
  have hM27 : M ≤ 27 := by omega
  have hM1 : 0 < M := by rw [hM]; exact Nat.pow_pos (by omega)
  have hV1 : 0 < V := by rw [hV]; exact Nat.pow_pos (by omega)
  rw [← hV] at hWs
  obtain ⟨d, hd⟩ : ∃ d, d = n + m - 1 := ⟨_, rfl⟩
  have hdi : (n : Int) + (m : Int) - 1 = (d : Int) := by omega
  have hd16 : d ≤ 7 := by omega
  have had : a < d := by omega
  rw [← hd] at hV
  have hwo : ∀ w, Calls Try.prog 56 #[.int .i64 K, .int .i64 d] w fun e w' => ∃ v, e = .returned v ∧ Own w' w.heap.size 9 v (scells (wordsL K d)) ∧ Ext w w' :=
    fun w => spec_l2All_any K d w (by omega) hk3 (by omega)
  obtain ⟨r, hr⟩ : ∃ r, r = undoL K n m a o := ⟨_, rfl⟩
  rw [← hr]
  have HM := Lib.hid (And.intro hM (And.intro hV (And.intro hd hr)))
  have HP := Lib.hid hpw
  have HW := Lib.hid hwo
  clear hM hV hpw hd hwo hr
  go_enter Try.func67, Try.ntmps67
  go_wp2
  have bo : Blk (w.alloc (.cells #[.int .i64 K, .int .i64 n, .string o] 25)) w.heap.size #[.int .i64 K, .int .i64 n, .string o] := by (repeat (first | (refine Blk.mk' ?_; (simp; done)) | apply Blk.old))
  have hxc : Ext w (w.alloc (.cells #[.int .i64 K, .int .i64 n, .string o] 25)) := Ext.alloc _ _
  have hsz : (w.alloc (.cells #[.int .i64 K, .int .i64 n, .string o] 25)).heap.size = w.heap.size + 1 := by simp
  obtain ⟨wc, hwc⟩ : ∃ wc : World, wc = w.alloc (.cells #[.int .i64 K, .int .i64 n, .string o] 25) := ⟨_, rfl⟩
  rw [← hwc] at bo hxc hsz ⊢
  clear hwc
  have hw0 : Own (wc.alloc (.cells #[] 5)) wc.heap.size 5 (.slice (some ⟨wc.heap.size, 0, none⟩) 0 0) (bcells (List.replicate 0 0)) := by
    simpa [bcells] using Own.lit wc 5 [] (by simp)
  rw [hsz] at hw0
  have hx0 := Ext.alloc wc (.cells #[] 5)
  have HSZ := Lib.hid hsz
  clear hsz
  go_loopw [8, 9] (fun v i wr => ∃ k : Nat, k ≤ M ∧ i = .int .i64 k ∧ Own wr (w.heap.size + 1) 5 v (bcells (List.replicate k 0)) ∧ Ext wc wr) (fun _ i _ => M - (intOf i).toNat)
  case atStart => exact ⟨0, by omega, rfl, hw0, hx0⟩
  case round =>
    clear hw0 hx0
    obtain ⟨k, hk, rfl, hown, hx⟩ := hrel
    obtain ⟨c0, c1, c2, -, -, -⟩ := (bo.ext hx).c3
    by_cases hlt : k < M
    · have hownb := hown.ext (Ext.alloc wr (.cells #[.int .u8 0] 5))
      have hxb := Ext.alloced hx (.cells #[.int .u8 0] 5)
      have hcx : (wr.alloc (.cells #[.int .u8 0] 5)).cell? ⟨wr.heap.size, 0, none⟩ = some (.int .u8 0) := by simp
      have hl1 : (bcells (List.replicate k 0)).length + 1 ≤ maxLen := by rw [bcells_length, List.length_replicate]; unfold maxLen; omega
      have hl2 : ((bcells (List.replicate k 0)).length + 1) * 1 ≤ 140737488355328 := by rw [bcells_length, List.length_replicate]; omega
      go_wp2_with fail
      with_reducible refine (HP.out _).mono ?_
      rintro e w3 ⟨rfl, rfl⟩
      go_wp2_with (at_builtin; refine wpList_append_one rfl (.tmp 23) (.tmp 24) 22 rfl 5 _ _ Try.underlying22 infoU8 rfl (w.heap.size + 1) _ _ rfl hownb wr.heap.size _ rfl hcx rfl hl1 hl2 wc HSZ.out hxb ?_; intro v' w4 hown4 hx4 hmv)
      go_roundw
      case rel => exact ⟨k + 1, by omega, by go_num, by rw [List.replicate_succ']; simpa [bcells] using hown4, hx4⟩
      case measure => simp [intOf]; omega
    · have hkM : k = M := by omega
      have hsh := hown.shape
      rw [bcells_length, List.length_replicate] at hsh
      rcases hsh with ⟨_, hnil⟩ | ⟨z, capz, rfl, hzb, hzlt, _, _⟩
      · exfalso
        have := congrArg List.length hnil
        rw [bcells_length] at this
        simp at this
        omega
      subst hkM
      obtain ⟨w1, rfl⟩ : ∃ w1 : World, w1 = wr := ⟨_, rfl⟩
      go_wp2_with fail
      with_reducible refine (HP.out _).mono ?_
      rintro e w3 ⟨rfl, rfl⟩
      go_wp2_with fail
      with_reducible refine (HW.out _).mono ?_
      rintro e w2 ⟨v33, rfl, hw, hx2⟩
      have hwl : (scells (wordsL K d)).length = V := by rw [HM.out.2.1]; simp [scells, wordsL]
      have hsh := hw.shape
      rw [hwl] at hsh
      rcases hsh with ⟨_, hnil⟩ | ⟨g, cap, rfl, hg, _, _, _⟩
      · exfalso
        rw [hnil] at hwl
        simp at hwl
        omega
      have HWL := Lib.hid hwl
      have hgz : z < g := by omega
      replace hown := hown.ext hx2
      have bo0 := bo
      replace bo := (bo.ext hx).ext hx2
      have hw1 := hw.mono (B' := w.heap.size + 1) (by have := Ext.size hx; have := HSZ.out; omega)
      replace hx := hx.trans hx2
      clear hwl hx2 hg hw hzlt c0 c1 c2
      go_wp2
      go_loopw [11] (fun i wr => ∃ (q : Nat) (t : List UInt8), q ≤ V ∧ i = .int .i64 q ∧ undoTo K n m a o q = some t ∧ Own wr (w.heap.size + 1) 5 (.slice (some ⟨z, 0, none⟩) k capz) (bcells t) ∧ Own wr (w.heap.size + 1) 9 (.slice (some ⟨g, 0, none⟩) V cap) (scells (wordsL K d)) ∧ Ext wc wr) (fun i _ => V - (intOf i).toNat)
      case atStart => exact ⟨0, List.replicate k 0, by omega, rfl, by rw [undoTo_zero, HM.out.1], hown, hw1, hx⟩
      case round =>
        clear hown hw1 hx
        obtain ⟨q, t, hq, rfl, htk, hz, hwg, hx⟩ := hrel
        have htl := undoTo_length htk
        rw [← HM.out.1] at htl
        have HTK := Lib.hid (And.intro htk htl)
        clear htk
        by_cases hlt : q < V
        · have hcell0 := hwg.cell q (by rw [HWL.out]; exact hlt)
          have hlw : q < (wordsL K d).length := by have := HWL.out; simp [scells] at this; omega
          obtain ⟨u, hu⟩ : ∃ u, u = (wordsL K d)[q] := ⟨_, rfl⟩
          have hcell : wr.cell? ⟨g, q, none⟩ = some (.string (mkS u)) := by
            rw [hcell0, hu]
            simp [scells]
          clear hcell0
          have huk : (wordsL K (n + m - 1))[q]? = some u := by rw [← HM.out.2.2.1, hu]; exact List.getElem?_eq_getElem hlw
          have hum : u.length = d ∧ areLet K u = true := by
            refine mem_wordsL (n := d) ?_ (by omega) hk3
            rw [hu]
            exact List.getElem_mem _
          have haul := applyL_length K n o u
          have hauls : (mkS (applyL K n o u)).size ≤ 16 := by rw [mkS_size, haul]; omega
          have haua := areLet_apply hf.size hf.lets hum.2
          have hidx := idxL_lt K (applyL K n o u) haua
          have hdm : (applyL K n o u).length = m := by have := HM.out.2.2.1; omega
          rw [hdm, ← HM.out.1] at hidx
          have hca := fun w => spec_l11Apply_any K n o (mkS u) w hf (by rw [mkS_size]; omega) (by rw [mkS_data]; exact hum.2)
          have hci := fun w => spec_l13Number_any K (mkS (applyL K n o u)) w (by omega) hk3 hauls (by rw [mkS_data]; exact haua)
          rw [mkS_data] at hca hci
          have hsnoc := undoTo_succ K n m a o q u huk
          rw [HTK.out.1] at hsnoc
          obtain ⟨x, hxx⟩ : ∃ x, x = idxL K (applyL K n o u) := ⟨_, rfl⟩
          obtain ⟨b, hb⟩ : ∃ b, b = t.getD x 0 := ⟨_, rfl⟩
          obtain ⟨c, hc⟩ : ∃ c, c = u.getD a 0 := ⟨_, rfl⟩
          have hstep : undoTo K n m a o (q + 1) = if (b != 0 && b != c) = true then none else some (t.set x c) := by
            rw [hsnoc, undoStep, Option.bind_some, ← hxx, ← hb, ← hc]
          rw [← hxx] at hci hidx
          have hus : (mkS u).size = d := by rw [mkS_size]; exact hum.1
          have hau : a < (mkS u).size := by omega
          have hgc : (mkS u)[a] = c := by rw [mkS_get, hc]
          have hcb := hz.cell x (by rw [bcells_length, htl]; exact hidx)
          rw [bcells_at _ _ (by rw [htl]; exact hidx), ← hb] at hcb
          obtain ⟨S, hS⟩ : ∃ S, S = mkS u := ⟨_, rfl⟩
          have hgc : ∀ h : a < S.size, S[a] = c := by subst hS; intro _; exact hgc
          rw [← hS] at hcell hau hca
          have hgc := hgc hau
          obtain ⟨A, hA⟩ : ∃ A, A = mkS (applyL K n o u) := ⟨_, rfl⟩
          rw [← hA] at hca hci
          have HS := Lib.hid (And.intro hstep (And.intro hca hci))
          obtain ⟨c0, c1, c2, -, -, -⟩ := (bo0.ext hx).c3
          clear haul hauls haua hdm hca hci hsnoc hxx hb hc hstep hus hS huk hum hu hlw hA
          go_wp2
          refine wp_region_inv (by kernel_rfl) (.known ?hx5_28_v0 :: .known ?hx5_28_v1 :: .known ?hx5_28_v2 :: .known ?hx5_28_v3 :: .known ?hx5_28_v4 :: .known ?hx5_28_v5 :: .known ?hx5_28_v6 :: .known (.string A) :: .known (.int .i64 (x : Nat)) :: .known ?hx5_28_v9 :: []) rfl (by kernel_rfl) ?hx5_28_s ?hx5_28_p
          case hx5_28_s =>
            intro vs
            refine ⟨fun w' hxw hj => ?_, fun w' hxw hj => ?_, fun w' hxw hj => ?_, fun w' hxw hj => ?_, fun w' hxw hj => ?_, fun w' hxw hj => ?_, fun w' hxw hj => ?_, fun w' hxw hj => ?_, fun w' hxw hj => ?_, fun w' hxw hj => ?_, trivial⟩
            · have c0 := Ext.cell_some hxw c0
              have c1 := Ext.cell_some hxw c1
              have c2 := Ext.cell_some hxw c2
              have hcell := Ext.cell_some hxw hcell
              have hcb := Ext.cell_some hxw hcb
              clear hj
              go_simp
              try go_bits
              first | rfl | (rw [if_pos (by omega), if_pos (by omega)]; go_simp; rfl) | (rw [if_pos (by omega)]; go_simp; rfl) | skip
            · have c0 := Ext.cell_some hxw c0
              have c1 := Ext.cell_some hxw c1
              have c2 := Ext.cell_some hxw c2
              have hcell := Ext.cell_some hxw hcell
              have hcb := Ext.cell_some hxw hcb
              clear hj
              go_simp
              try go_bits
              first | rfl | (rw [if_pos (by omega), if_pos (by omega)]; go_simp; rfl) | (rw [if_pos (by omega)]; go_simp; rfl) | skip
            · have c0 := Ext.cell_some hxw c0
              have c1 := Ext.cell_some hxw c1
              have c2 := Ext.cell_some hxw c2
              have hcell := Ext.cell_some hxw hcell
              have hcb := Ext.cell_some hxw hcb
              clear hj
              go_simp
              try go_bits
              first | rfl | (rw [if_pos (by omega), if_pos (by omega)]; go_simp; rfl) | (rw [if_pos (by omega)]; go_simp; rfl) | skip
            · have c0 := Ext.cell_some hxw c0
              have c1 := Ext.cell_some hxw c1
              have c2 := Ext.cell_some hxw c2
              have hcell := Ext.cell_some hxw hcell
              have hcb := Ext.cell_some hxw hcb
              clear hj
              go_simp
              try go_bits
              first | rfl | (rw [if_pos (by omega), if_pos (by omega)]; go_simp; rfl) | (rw [if_pos (by omega)]; go_simp; rfl) | skip
            · have c0 := Ext.cell_some hxw c0
              have c1 := Ext.cell_some hxw c1
              have c2 := Ext.cell_some hxw c2
              have hcell := Ext.cell_some hxw hcell
              have hcb := Ext.cell_some hxw hcb
              clear hj
              go_simp
              try go_bits
              first | rfl | (rw [if_pos (by omega), if_pos (by omega)]; go_simp; rfl) | (rw [if_pos (by omega)]; go_simp; rfl) | skip
            · have c0 := Ext.cell_some hxw c0
              have c1 := Ext.cell_some hxw c1
              have c2 := Ext.cell_some hxw c2
              have hcell := Ext.cell_some hxw hcell
              have hcb := Ext.cell_some hxw hcb
              clear hj
              go_simp
              try go_bits
              first | rfl | (rw [if_pos (by omega), if_pos (by omega)]; go_simp; rfl) | (rw [if_pos (by omega)]; go_simp; rfl) | skip
            · have c0 := Ext.cell_some hxw c0
              have c1 := Ext.cell_some hxw c1
              have c2 := Ext.cell_some hxw c2
              have hcell := Ext.cell_some hxw hcell
              have hcb := Ext.cell_some hxw hcb
              clear hj
              go_simp
              try go_bits
              first | rfl | (rw [if_pos (by omega), if_pos (by omega)]; go_simp; rfl) | (rw [if_pos (by omega)]; go_simp; rfl) | skip
            · have c0 := Ext.cell_some hxw c0
              have c1 := Ext.cell_some hxw c1
              have c2 := Ext.cell_some hxw c2
              have hcell := Ext.cell_some hxw hcell
              have hcb := Ext.cell_some hxw hcb
              clear hj
              go_simp
              try go_bits
              exact HS.out.2.1 _
            · have c0 := Ext.cell_some hxw c0
              have c1 := Ext.cell_some hxw c1
              have c2 := Ext.cell_some hxw c2
              have hcell := Ext.cell_some hxw hcell
              have hcb := Ext.cell_some hxw hcb
              clear hj
              go_simp
              try go_bits
              exact (HS.out.2.2 _).mono fun _ _ ⟨h1, h2⟩ => ⟨h1, h2 ▸ Ext.refl _⟩
            · have c0 := Ext.cell_some hxw c0
              have c1 := Ext.cell_some hxw c1
              have c2 := Ext.cell_some hxw c2
              have hcell := Ext.cell_some hxw hcell
              have hcb := Ext.cell_some hxw hcb
              clear hj
              go_simp
              try go_bits
              first | rfl | (rw [if_pos (by omega), if_pos (by omega)]; go_simp; rfl) | (rw [if_pos (by omega)]; go_simp; rfl) | skip
          case' hx5_28_p =>
            intro vs w5 hx5 hk
            clear hk
            replace c0 := Ext.cell_some hx5 c0
            replace c1 := Ext.cell_some hx5 c1
            replace c2 := Ext.cell_some hx5 c2
            replace hcell := Ext.cell_some hx5 hcell
            replace hcb := Ext.cell_some hx5 hcb
            replace hz := Own.ext hz hx5
            replace hwg := Own.ext hwg hx5
            replace hx := Ext.trans hx hx5
            go_simp
            clear hx5
            go_wp2
            by_cases hb0 : b = 0
            · have hbn : b.toNat = 0 := by rw [hb0]; rfl
              have HB := Lib.hid (show (b != 0 && b != c) = false by rw [hb0]; rfl)
              clear hb0
              refine wp_region_inv (by kernel_rfl) (.known ?hx6_29_v0 :: .known ?hx6_29_v1 :: .known ?hx6_29_v2 :: .known ?hx6_29_v3 :: .known ?hx6_29_v4 :: .known ?hx6_29_v5 :: .known ?hx6_29_v6 :: .known ?hx6_29_v7 :: .known ?hx6_29_v8 :: .known ?hx6_29_v9 :: .known ?hx6_29_v10 :: .known ?hx6_29_v11 :: .known ?hx6_29_v12 :: .known ?hx6_29_v13 :: .known ?hx6_29_v14 :: .known ?hx6_29_v15 :: .known ?hx6_29_v16 :: .known ?hx6_29_v17 :: []) rfl (by kernel_rfl) ?hx6_29_s ?hx6_29_p
              case hx6_29_s =>
                intro vs
                refine ⟨fun w' hxw hj => ?_, fun w' hxw hj => ?_, fun w' hxw hj => ?_, fun w' hxw hj => ?_, fun w' hxw hj => ?_, fun w' hxw hj => ?_, fun w' hxw hj => ?_, fun w' hxw hj => ?_, fun w' hxw hj => ?_, fun w' hxw hj => ?_, fun w' hxw hj => ?_, fun w' hxw hj => ?_, fun w' hxw hj => ?_, fun w' hxw hj => ?_, fun w' hxw hj => ?_, fun w' hxw hj => ?_, fun w' hxw hj => ?_, fun w' hxw hj => ?_, trivial⟩
                · have hcell := Ext.cell_some hxw hcell
                  have hcb := Ext.cell_some hxw hcb
                  clear hj
                  go_simp
                  try go_bits
                  first | rfl | (rw [if_pos (by omega), if_pos (by omega)]; go_simp; rfl) | (rw [if_pos (by omega)]; go_simp; rfl) | skip
                · have hcell := Ext.cell_some hxw hcell
                  have hcb := Ext.cell_some hxw hcb
                  clear hj
                  go_simp
                  try go_bits
                  first | rfl | (rw [if_pos (by omega), if_pos (by omega)]; go_simp; rfl) | (rw [if_pos (by omega)]; go_simp; rfl) | skip
                · have hcell := Ext.cell_some hxw hcell
                  have hcb := Ext.cell_some hxw hcb
                  clear hj
                  go_simp
                  try go_bits
                  first | rfl | (rw [if_pos (by omega), if_pos (by omega)]; go_simp; rfl) | (rw [if_pos (by omega)]; go_simp; rfl) | skip
                · have hcell := Ext.cell_some hxw hcell
                  have hcb := Ext.cell_some hxw hcb
                  clear hj
                  go_simp
                  try go_bits
                  first | rfl | (rw [if_pos (by omega), if_pos (by omega)]; go_simp; rfl) | (rw [if_pos (by omega)]; go_simp; rfl) | skip
                · have hcell := Ext.cell_some hxw hcell
                  have hcb := Ext.cell_some hxw hcb
                  clear hj
                  go_simp
                  try go_bits
                  first | rfl | (rw [if_pos (by omega), if_pos (by omega)]; go_simp; rfl) | (rw [if_pos (by omega)]; go_simp; rfl) | skip
                · have hcell := Ext.cell_some hxw hcell
                  have hcb := Ext.cell_some hxw hcb
                  clear hj
                  go_simp
                  try go_bits
                  first | rfl | (rw [if_pos (by omega), if_pos (by omega)]; go_simp; rfl) | (rw [if_pos (by omega)]; go_simp; rfl) | skip
                · have hcell := Ext.cell_some hxw hcell
                  have hcb := Ext.cell_some hxw hcb
                  clear hj
                  go_simp
                  try go_bits
                  first | rfl | (rw [if_pos (by omega), if_pos (by omega)]; go_simp; rfl) | (rw [if_pos (by omega)]; go_simp; rfl) | skip
                · have hcell := Ext.cell_some hxw hcell
                  have hcb := Ext.cell_some hxw hcb
                  clear hj
                  go_simp
                  try go_bits
                  first | rfl | (rw [if_pos (by omega), if_pos (by omega)]; go_simp; rfl) | (rw [if_pos (by omega)]; go_simp; rfl) | skip
                · have hcell := Ext.cell_some hxw hcell
                  have hcb := Ext.cell_some hxw hcb
                  clear hj
                  go_simp
                  try go_bits
                  first | rfl | (rw [if_pos (by omega), if_pos (by omega)]; go_simp; rfl) | (rw [if_pos (by omega)]; go_simp; rfl) | skip
                · have hcell := Ext.cell_some hxw hcell
                  have hcb := Ext.cell_some hxw hcb
                  clear hj
                  go_simp
                  try go_bits
                  first | rfl | (rw [if_pos (by omega), if_pos (by omega)]; go_simp; rfl) | (rw [if_pos (by omega)]; go_simp; rfl) | skip
                · have hcell := Ext.cell_some hxw hcell
                  have hcb := Ext.cell_some hxw hcb
                  clear hj
                  go_simp
                  try go_bits
                  first | rfl | (rw [if_pos (by omega), if_pos (by omega)]; go_simp; rfl) | (rw [if_pos (by omega)]; go_simp; rfl) | skip
                · have hcell := Ext.cell_some hxw hcell
                  have hcb := Ext.cell_some hxw hcb
                  clear hj
                  go_simp
                  try go_bits
                  first | rfl | (rw [if_pos (by omega), if_pos (by omega)]; go_simp; rfl) | (rw [if_pos (by omega)]; go_simp; rfl) | skip
                · have hcell := Ext.cell_some hxw hcell
                  have hcb := Ext.cell_some hxw hcb
                  clear hj
                  go_simp
                  try go_bits
                  first | rfl | (rw [if_pos (by omega), if_pos (by omega)]; go_simp; rfl) | (rw [if_pos (by omega)]; go_simp; rfl) | skip
                · have hcell := Ext.cell_some hxw hcell
                  have hcb := Ext.cell_some hxw hcb
                  clear hj
                  go_simp
                  try go_bits
                  first | rfl | (rw [if_pos (by omega), if_pos (by omega)]; go_simp; rfl) | (rw [if_pos (by omega)]; go_simp; rfl) | skip
                · have hcell := Ext.cell_some hxw hcell
                  have hcb := Ext.cell_some hxw hcb
                  clear hj
                  go_simp
                  try go_bits
                  first | rfl | (rw [if_pos (by omega), if_pos (by omega)]; go_simp; rfl) | (rw [if_pos (by omega)]; go_simp; rfl) | skip
                · have hcell := Ext.cell_some hxw hcell
                  have hcb := Ext.cell_some hxw hcb
                  clear hj
                  go_simp
                  try go_bits
                  first | rfl | (rw [if_pos (by omega), if_pos (by omega)]; go_simp; rfl) | (rw [if_pos (by omega)]; go_simp; rfl) | skip
                · have hcell := Ext.cell_some hxw hcell
                  have hcb := Ext.cell_some hxw hcb
                  clear hj
                  go_simp
                  try go_bits
                  first | rfl | (rw [if_pos (by omega), if_pos (by omega)]; go_simp; rfl) | (rw [if_pos (by omega)]; go_simp; rfl) | skip
                · have hcell := Ext.cell_some hxw hcell
                  have hcb := Ext.cell_some hxw hcb
                  clear hj
                  go_simp
                  try go_bits
                  first | rfl | (rw [if_pos (by omega), if_pos (by omega)]; go_simp; rfl) | (rw [if_pos (by omega)]; go_simp; rfl) | skip
              case' hx6_29_p =>
                intro vs w6 hx6 hk
                clear hk
                replace hcell := Ext.cell_some hx6 hcell
                replace hcb := Ext.cell_some hx6 hcb
                replace hz := Own.ext hz hx6
                replace hwg := Own.ext hwg hx6
                replace hx := Ext.trans hx hx6
                go_simp
                clear hx6 c0 c1 c2
                have hfb := hz.frozen x
                have hz' := hz.store x (.int .u8 (c.toNat : Int))
                rw [bcells_set] at hz'
                have hwg' := Own.other hwg (g2 := z) (by omega) x (.int .u8 (c.toNat : Int))
                have hx' : Ext wc (w6.setCell ⟨z, x, none⟩ (.int .u8 (c.toNat : Int))) := Ext.stored hx (by show _ ≤ z; rw [HSZ.out]; exact hzb)
                clear hz hwg hx
                go_wp2
                go_roundw
                case rel => exact ⟨q + 1, t.set x c, by omega, by go_num, by rw [HS.out.1, HB.out]; rfl, hz', hwg', hx'⟩
                case measure => simp [intOf]; omega
            · have hbn : ¬ b.toNat = 0 := fun h => hb0 (UInt8.toNat_inj.1 h)
              by_cases hbc : b = c
              · obtain rfl : c = b := hbc.symm
                have HB := Lib.hid (show (c != 0 && c != c) = false by simp)
                clear hb0 hbc
                refine wp_region_inv (by kernel_rfl) (.known ?hx6_30_v0 :: .known ?hx6_30_v1 :: .known ?hx6_30_v2 :: .known ?hx6_30_v3 :: .known ?hx6_30_v4 :: .known ?hx6_30_v5 :: .known ?hx6_30_v6 :: .known ?hx6_30_v7 :: .known ?hx6_30_v8 :: .known ?hx6_30_v9 :: .known ?hx6_30_v10 :: .known ?hx6_30_v11 :: .known ?hx6_30_v12 :: .known ?hx6_30_v13 :: .known ?hx6_30_v14 :: .known ?hx6_30_v15 :: .known ?hx6_30_v16 :: .known ?hx6_30_v17 :: []) rfl (by kernel_rfl) ?hx6_30_s ?hx6_30_p
                case hx6_30_s =>
                  intro vs
                  refine ⟨fun w' hxw hj => ?_, fun w' hxw hj => ?_, fun w' hxw hj => ?_, fun w' hxw hj => ?_, fun w' hxw hj => ?_, fun w' hxw hj => ?_, fun w' hxw hj => ?_, fun w' hxw hj => ?_, fun w' hxw hj => ?_, fun w' hxw hj => ?_, fun w' hxw hj => ?_, fun w' hxw hj => ?_, fun w' hxw hj => ?_, fun w' hxw hj => ?_, fun w' hxw hj => ?_, fun w' hxw hj => ?_, fun w' hxw hj => ?_, fun w' hxw hj => ?_, trivial⟩
                  · have hcell := Ext.cell_some hxw hcell
                    have hcb := Ext.cell_some hxw hcb
                    clear hj
                    go_simp
                    try go_bits
                    first | rfl | (rw [if_pos (by omega), if_pos (by omega)]; go_simp; rfl) | (rw [if_pos (by omega)]; go_simp; rfl) | skip
                  · have hcell := Ext.cell_some hxw hcell
                    have hcb := Ext.cell_some hxw hcb
                    clear hj
                    go_simp
                    try go_bits
                    first | rfl | (rw [if_pos (by omega), if_pos (by omega)]; go_simp; rfl) | (rw [if_pos (by omega)]; go_simp; rfl) | skip
                  · have hcell := Ext.cell_some hxw hcell
                    have hcb := Ext.cell_some hxw hcb
                    clear hj
                    go_simp
                    try go_bits
                    first | rfl | (rw [if_pos (by omega), if_pos (by omega)]; go_simp; rfl) | (rw [if_pos (by omega)]; go_simp; rfl) | skip
                  · have hcell := Ext.cell_some hxw hcell
                    have hcb := Ext.cell_some hxw hcb
                    clear hj
                    go_simp
                    try go_bits
                    first | rfl | (rw [if_pos (by omega), if_pos (by omega)]; go_simp; rfl) | (rw [if_pos (by omega)]; go_simp; rfl) | skip
                  · have hcell := Ext.cell_some hxw hcell
                    have hcb := Ext.cell_some hxw hcb
                    clear hj
                    go_simp
                    try go_bits
                    first | rfl | (rw [if_pos (by omega), if_pos (by omega)]; go_simp; rfl) | (rw [if_pos (by omega)]; go_simp; rfl) | skip
                  · have hcell := Ext.cell_some hxw hcell
                    have hcb := Ext.cell_some hxw hcb
                    clear hj
                    go_simp
                    try go_bits
                    first | rfl | (rw [if_pos (by omega), if_pos (by omega)]; go_simp; rfl) | (rw [if_pos (by omega)]; go_simp; rfl) | skip
                  · have hcell := Ext.cell_some hxw hcell
                    have hcb := Ext.cell_some hxw hcb
                    clear hj
                    go_simp
                    try go_bits
                    first | rfl | (rw [if_pos (by omega), if_pos (by omega)]; go_simp; rfl) | (rw [if_pos (by omega)]; go_simp; rfl) | skip
                  · have hcell := Ext.cell_some hxw hcell
                    have hcb := Ext.cell_some hxw hcb
                    clear hj
                    go_simp
                    try go_bits
                    first | rfl | (rw [if_pos (by omega), if_pos (by omega)]; go_simp; rfl) | (rw [if_pos (by omega)]; go_simp; rfl) | skip
                  · have hcell := Ext.cell_some hxw hcell
                    have hcb := Ext.cell_some hxw hcb
                    clear hj
                    go_simp
                    try go_bits
                    first | rfl | (rw [if_pos (by omega), if_pos (by omega)]; go_simp; rfl) | (rw [if_pos (by omega)]; go_simp; rfl) | skip
                  · have hcell := Ext.cell_some hxw hcell
                    have hcb := Ext.cell_some hxw hcb
                    clear hj
                    go_simp
                    try go_bits
                    first | rfl | (rw [if_pos (by omega), if_pos (by omega)]; go_simp; rfl) | (rw [if_pos (by omega)]; go_simp; rfl) | skip
                  · have hcell := Ext.cell_some hxw hcell
                    have hcb := Ext.cell_some hxw hcb
                    clear hj
                    go_simp
                    try go_bits
                    first | rfl | (rw [if_pos (by omega), if_pos (by omega)]; go_simp; rfl) | (rw [if_pos (by omega)]; go_simp; rfl) | skip
                  · have hcell := Ext.cell_some hxw hcell
                    have hcb := Ext.cell_some hxw hcb
                    clear hj
                    go_simp
                    try go_bits
                    first | rfl | (rw [if_pos (by omega), if_pos (by omega)]; go_simp; rfl) | (rw [if_pos (by omega)]; go_simp; rfl) | skip
                  · have hcell := Ext.cell_some hxw hcell
                    have hcb := Ext.cell_some hxw hcb
                    clear hj
                    go_simp
                    try go_bits
                    first | rfl | (rw [if_pos (by omega), if_pos (by omega)]; go_simp; rfl) | (rw [if_pos (by omega)]; go_simp; rfl) | skip
                  · have hcell := Ext.cell_some hxw hcell
                    have hcb := Ext.cell_some hxw hcb
                    clear hj
                    go_simp
                    try go_bits
                    first | rfl | (rw [if_pos (by omega), if_pos (by omega)]; go_simp; rfl) | (rw [if_pos (by omega)]; go_simp; rfl) | skip
                  · have hcell := Ext.cell_some hxw hcell
                    have hcb := Ext.cell_some hxw hcb
                    clear hj
                    go_simp
                    try go_bits
                    first | rfl | (rw [if_pos (by omega), if_pos (by omega)]; go_simp; rfl) | (rw [if_pos (by omega)]; go_simp; rfl) | skip
                  · have hcell := Ext.cell_some hxw hcell
                    have hcb := Ext.cell_some hxw hcb
                    clear hj
                    go_simp
                    try go_bits
                    first | rfl | (rw [if_pos (by omega), if_pos (by omega)]; go_simp; rfl) | (rw [if_pos (by omega)]; go_simp; rfl) | skip
                  · have hcell := Ext.cell_some hxw hcell
                    have hcb := Ext.cell_some hxw hcb
                    clear hj
                    go_simp
                    try go_bits
                    first | rfl | (rw [if_pos (by omega), if_pos (by omega)]; go_simp; rfl) | (rw [if_pos (by omega)]; go_simp; rfl) | skip
                  · have hcell := Ext.cell_some hxw hcell
                    have hcb := Ext.cell_some hxw hcb
                    clear hj
                    go_simp
                    try go_bits
                    first | rfl | (rw [if_pos (by omega), if_pos (by omega)]; go_simp; rfl) | (rw [if_pos (by omega)]; go_simp; rfl) | skip
                case' hx6_30_p =>
                  intro vs w6 hx6 hk
                  clear hk
                  replace hcell := Ext.cell_some hx6 hcell
                  replace hcb := Ext.cell_some hx6 hcb
                  replace hz := Own.ext hz hx6
                  replace hwg := Own.ext hwg hx6
                  replace hx := Ext.trans hx hx6
                  go_simp
                  clear hx6 c0 c1 c2
                  have hfb := hz.frozen x
                  have hz' := hz.store x (.int .u8 (c.toNat : Int))
                  rw [bcells_set] at hz'
                  have hwg' := Own.other hwg (g2 := z) (by omega) x (.int .u8 (c.toNat : Int))
                  have hx' : Ext wc (w6.setCell ⟨z, x, none⟩ (.int .u8 (c.toNat : Int))) := Ext.stored hx (by show _ ≤ z; rw [HSZ.out]; exact hzb)
                  clear hz hwg hx
                  go_wp2
                  go_roundw
                  case rel => exact ⟨q + 1, t.set x c, by omega, by go_num, by rw [HS.out.1, HB.out]; rfl, hz', hwg', hx'⟩
                  case measure => simp [intOf]; omega
              · have hbcn : ¬ b.toNat = c.toNat := fun h => hbc (UInt8.toNat_inj.1 h)
                have HB := Lib.hid (show (b != 0 && b != c) = true by simp [hb0, hbc])
                have hbb : ((b.toNat : Int) != 0) = true := by simp; omega
                have hbcb : ((b.toNat : Int) != (c.toNat : Int)) = true := by simp; omega
                clear hb0 hbc hbn hbcn
                refine wp_region_inv (by kernel_rfl) (.known ?hx6_31_v0 :: .known ?hx6_31_v1 :: .known ?hx6_31_v2 :: .known ?hx6_31_v3 :: .known ?hx6_31_v4 :: .known ?hx6_31_v5 :: .known ?hx6_31_v6 :: .known ?hx6_31_v7 :: .known ?hx6_31_v8 :: .known ?hx6_31_v9 :: .known ?hx6_31_v10 :: .known ?hx6_31_v11 :: .known ?hx6_31_v12 :: .known ?hx6_31_v13 :: .known ?hx6_31_v14 :: .known ?hx6_31_v15 :: .known ?hx6_31_v16 :: .known ?hx6_31_v17 :: []) rfl (by kernel_rfl) ?hx6_31_s ?hx6_31_p
                case hx6_31_s =>
                  intro vs
                  refine ⟨fun w' hxw hj => ?_, fun w' hxw hj => ?_, fun w' hxw hj => ?_, fun w' hxw hj => ?_, fun w' hxw hj => ?_, fun w' hxw hj => ?_, fun w' hxw hj => ?_, fun w' hxw hj => ?_, fun w' hxw hj => ?_, fun w' hxw hj => ?_, fun w' hxw hj => ?_, fun w' hxw hj => ?_, fun w' hxw hj => ?_, fun w' hxw hj => ?_, fun w' hxw hj => ?_, fun w' hxw hj => ?_, fun w' hxw hj => ?_, fun w' hxw hj => ?_, trivial⟩
                  · have hcell := Ext.cell_some hxw hcell
                    have hcb := Ext.cell_some hxw hcb
                    clear hj
                    go_simp
                    try go_bits
                    first | rfl | (rw [if_pos (by omega), if_pos (by omega)]; go_simp; rfl) | (rw [if_pos (by omega)]; go_simp; rfl) | skip
                  · have hcell := Ext.cell_some hxw hcell
                    have hcb := Ext.cell_some hxw hcb
                    clear hj
                    go_simp
                    try go_bits
                    first | rfl | (rw [if_pos (by omega), if_pos (by omega)]; go_simp; rfl) | (rw [if_pos (by omega)]; go_simp; rfl) | skip
                  · have hcell := Ext.cell_some hxw hcell
                    have hcb := Ext.cell_some hxw hcb
                    clear hj
                    go_simp
                    try go_bits
                    first | rfl | (rw [if_pos (by omega), if_pos (by omega)]; go_simp; rfl) | (rw [if_pos (by omega)]; go_simp; rfl) | skip
                  · have hcell := Ext.cell_some hxw hcell
                    have hcb := Ext.cell_some hxw hcb
                    clear hj
                    go_simp
                    try go_bits
                    first | rfl | (rw [if_pos (by omega), if_pos (by omega)]; go_simp; rfl) | (rw [if_pos (by omega)]; go_simp; rfl) | skip
                  · have hcell := Ext.cell_some hxw hcell
                    have hcb := Ext.cell_some hxw hcb
                    clear hj
                    go_simp
                    try go_bits
                    first | rfl | (rw [if_pos (by omega), if_pos (by omega)]; go_simp; rfl) | (rw [if_pos (by omega)]; go_simp; rfl) | skip
                  · have hcell := Ext.cell_some hxw hcell
                    have hcb := Ext.cell_some hxw hcb
                    clear hj
                    go_simp
                    try go_bits
                    first | rfl | (rw [if_pos (by omega), if_pos (by omega)]; go_simp; rfl) | (rw [if_pos (by omega)]; go_simp; rfl) | skip
                  · have hcell := Ext.cell_some hxw hcell
                    have hcb := Ext.cell_some hxw hcb
                    clear hj
                    go_simp
                    try go_bits
                    first | rfl | (rw [if_pos (by omega), if_pos (by omega)]; go_simp; rfl) | (rw [if_pos (by omega)]; go_simp; rfl) | skip
                  · have hcell := Ext.cell_some hxw hcell
                    have hcb := Ext.cell_some hxw hcb
                    clear hj
                    go_simp
                    try go_bits
                    first | rfl | (rw [if_pos (by omega), if_pos (by omega)]; go_simp; rfl) | (rw [if_pos (by omega)]; go_simp; rfl) | skip
                  · have hcell := Ext.cell_some hxw hcell
                    have hcb := Ext.cell_some hxw hcb
                    clear hj
                    go_simp
                    try go_bits
                    first | rfl | (rw [if_pos (by omega), if_pos (by omega)]; go_simp; rfl) | (rw [if_pos (by omega)]; go_simp; rfl) | skip
                  · have hcell := Ext.cell_some hxw hcell
                    have hcb := Ext.cell_some hxw hcb
                    clear hj
                    go_simp
                    try go_bits
                    first | rfl | (rw [if_pos (by omega), if_pos (by omega)]; go_simp; rfl) | (rw [if_pos (by omega)]; go_simp; rfl) | skip
                  · have hcell := Ext.cell_some hxw hcell
                    have hcb := Ext.cell_some hxw hcb
                    clear hj
                    go_simp
                    try go_bits
                    first | rfl | (rw [if_pos (by omega), if_pos (by omega)]; go_simp; rfl) | (rw [if_pos (by omega)]; go_simp; rfl) | skip
                  · have hcell := Ext.cell_some hxw hcell
                    have hcb := Ext.cell_some hxw hcb
                    clear hj
                    go_simp
                    try go_bits
                    first | rfl | (rw [if_pos (by omega), if_pos (by omega)]; go_simp; rfl) | (rw [if_pos (by omega)]; go_simp; rfl) | skip
                  · have hcell := Ext.cell_some hxw hcell
                    have hcb := Ext.cell_some hxw hcb
                    clear hj
                    go_simp
                    try go_bits
                    first | rfl | (rw [if_pos (by omega), if_pos (by omega)]; go_simp; rfl) | (rw [if_pos (by omega)]; go_simp; rfl) | skip
                  · have hcell := Ext.cell_some hxw hcell
                    have hcb := Ext.cell_some hxw hcb
                    clear hj
                    go_simp
                    try go_bits
                    first | rfl | (rw [if_pos (by omega), if_pos (by omega)]; go_simp; rfl) | (rw [if_pos (by omega)]; go_simp; rfl) | skip
                  · have hcell := Ext.cell_some hxw hcell
                    have hcb := Ext.cell_some hxw hcb
                    clear hj
                    go_simp
                    try go_bits
                    first | rfl | (rw [if_pos (by omega), if_pos (by omega)]; go_simp; rfl) | (rw [if_pos (by omega)]; go_simp; rfl) | skip
                  · have hcell := Ext.cell_some hxw hcell
                    have hcb := Ext.cell_some hxw hcb
                    clear hj
                    go_simp
                    try go_bits
                    first | rfl | (rw [if_pos (by omega), if_pos (by omega)]; go_simp; rfl) | (rw [if_pos (by omega)]; go_simp; rfl) | skip
                  · have hcell := Ext.cell_some hxw hcell
                    have hcb := Ext.cell_some hxw hcb
                    clear hj
                    go_simp
                    try go_bits
                    first | rfl | (rw [if_pos (by omega), if_pos (by omega)]; go_simp; rfl) | (rw [if_pos (by omega)]; go_simp; rfl) | skip
                  · have hcell := Ext.cell_some hxw hcell
                    have hcb := Ext.cell_some hxw hcb
                    clear hj
                    go_simp
                    try go_bits
                    first | rfl | (rw [if_pos (by omega), if_pos (by omega)]; go_simp; rfl) | (rw [if_pos (by omega)]; go_simp; rfl) | skip
                case' hx6_31_p =>
                  intro vs w6 hx6 hk
                  clear hk
                  replace hcell := Ext.cell_some hx6 hcell
                  replace hcb := Ext.cell_some hx6 hcb
                  replace hz := Own.ext hz hx6
                  replace hwg := Own.ext hwg hx6
                  replace hx := Ext.trans hx hx6
                  go_simp
                  clear hx6 c0 c1 c2
                  have hrn : r = none := by rw [HM.out.2.2.2]; exact undoL_none (k := q + 1) (by rw [← HM.out.2.2.1, ← HM.out.2.1]; omega) (by rw [HS.out.1, HB.out]; rfl)
                  have HR := Lib.hid hrn
                  clear hrn
                  go_wp2
                  go_ret2
                  exact ⟨by rw [HR.out]; rfl, hxc.trans hx⟩
        · have hqV : q = V := by omega
          have htu : r = some (t.map fillA) := by
            rw [HM.out.2.2.2]
            unfold undoL
            rw [← HM.out.2.2.1, ← HM.out.2.1, ← hqV, HTK.out.1]
            rfl
          have HTU := Lib.hid (And.intro htu HTK.out.2)
          have hz0 : Own wr (w.heap.size + 1) 5 (.slice (some ⟨z, 0, none⟩) k capz) (bcells (fillTo t 0)) := by rw [fillTo_zero]; exact hz
          subst hqV
          clear htu HTK hz hwg htl
          obtain ⟨wq, rfl⟩ : ∃ wq : World, wq = wr := ⟨_, rfl⟩
          go_wp2
          go_loopw [13] (fun i wr => ∃ j : Nat, j ≤ k ∧ i = .int .i64 j ∧ Own wr (w.heap.size + 1) 5 (.slice (some ⟨z, 0, none⟩) k capz) (bcells (fillTo t j)) ∧ Ext wc wr) (fun i _ => k - (intOf i).toNat)
          case atStart => exact ⟨0, by omega, rfl, hz0, hx⟩
          case round =>
            clear hz0 hx
            obtain ⟨j, hj, rfl, hz, hx⟩ := hrel
            by_cases hlt : j < k
            · have htl := HTU.out.2
              have hfl := fillTo_length t j (by omega)
              have hcb := hz.cell j (by rw [bcells_length]; omega)
              rw [bcells_at _ _ (by omega), fillTo_at t j (by omega)] at hcb
              have hfb := hz.frozen j
              obtain ⟨b, hb⟩ : ∃ b, b = t.getD j 0 := ⟨_, rfl⟩
              have hsucc := fillTo_succ t j (by omega)
              have hkeep := fillTo_keep t j (by omega)
              rw [← hb] at hcb hsucc hkeep
              have HF := Lib.hid (And.intro hsucc hkeep)
              clear htl hfl hb hsucc hkeep
              by_cases hb0 : b = 0
              · have hbn : b.toNat = 0 := by rw [hb0]; rfl
                have HB := Lib.hid (show fillA b = 97 by rw [hb0]; rfl)
                clear hb0
                have hz' := hz.store j (.int .u8 97)
                have e97 : (Value.int .u8 97) = .int .u8 (((97 : UInt8).toNat : Nat) : Int) := rfl
                have hz' : Own (wr.setCell ⟨z, j, none⟩ (.int .u8 97)) (w.heap.size + 1) 5 (.slice (some ⟨z, 0, none⟩) k capz) (bcells (fillTo t (j + 1))) := by
                  rw [e97, bcells_set] at hz'
                  rw [HF.out.1, HB.out]
                  exact hz'
                have hx' : Ext wc (wr.setCell ⟨z, j, none⟩ (.int .u8 97)) := Ext.stored hx (by show _ ≤ z; rw [HSZ.out]; exact hzb)
                clear hz hx e97
                go_wp2
                go_roundw
                case rel => exact ⟨j + 1, by omega, by go_num, hz', hx'⟩
                case measure => simp [intOf]; omega
              · have hbn : ¬ b.toNat = 0 := fun h => hb0 (UInt8.toNat_inj.1 h)
                have HB := Lib.hid (HF.out.2 hb0)
                clear hb0
                go_wp2
                go_roundw
                case rel => exact ⟨j + 1, by omega, by go_num, by rw [HB.out]; exact hz, hx⟩
                case measure => simp [intOf]; omega
            · have hjM : j = k := by omega
              subst hjM
              have hall : fillTo t j = t.map fillA := by rw [← HTU.out.2]; exact fillTo_all t
              rw [hall] at hz
              have hcv := run_convert_own (P := Try.prog) (src := 22) (dst := 9) Try.underlying22 Try.underlying5 Try.underlying9 hz
              clear hall hz
              go_wp2
              go_ret2
              exact ⟨by rw [HTU.out.1]; rfl, hxc.trans hx⟩
end Go.Proofs.Ytfkdpeifnfpldaa

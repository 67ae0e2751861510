/- Contract: the program's code of a width that undoes another one but for a place. -/
import Derived.Test.YtfkdpeifnfpldaaSrcA
import Derived.Test.YtfkdpeifnfpldaaPkM
namespace Go.Proofs.Ytfkdpeifnfpldaa
open Go.RowKit Go.Cm

theorem bcells_length (l : List UInt8) : (bcells l).length = l.length := by simp [bcells]
theorem bcells_at (l : List UInt8) (j : Nat) (h : j < l.length) : (bcells l)[j]'(by rw [bcells_length]; exact h) = .int .u8 ((l.getD j 0).toNat : Int) := by
  simp [bcells, List.getD_eq_getElem?_getD, List.getElem?_eq_getElem h]
theorem bcells_set (l : List UInt8) (j : Nat) (x : UInt8) : (bcells l).set j (.int .u8 (x.toNat : Int)) = bcells (l.set j x) := by simp [bcells, List.map_set]
theorem bcells_replicate (n : Nat) (x : UInt8) : bcells (List.replicate n x) = List.replicate n (.int .u8 (x.toNat : Int)) := by simp [bcells]

/-- what an undoing code returns -/
def undoV (K m : Nat) (r : Option (List UInt8)) : Value := match r with
  | none => .tuple #[.agg #[.int .i64 0, .int .i64 0, .string ⟨#[]⟩], .bool false]
  | some t => .tuple #[.agg #[.int .i64 K, .int .i64 m, .string (mkS t)], .bool true]

/-- how long the words are of which an undoing code is made -/
theorem undo_small {K n m : Nat} (hK : 2 ≤ K) (hn : K ^ n ≤ 27) (hm : K ^ m ≤ 27) (hn1 : 1 ≤ n) : K ^ (n + m - 1) ≤ 729 := by
  have h1 : K ^ (n + m - 1) = K ^ (n - 1) * K ^ m := by rw [← Nat.pow_add]; congr 1; omega
  have h2 : K ^ (n - 1) ≤ K ^ n := Nat.pow_le_pow_right (by omega) (by omega)
  have h3 : K ^ (n - 1) * K ^ m ≤ 27 * 27 := Nat.mul_le_mul (by omega) hm
  omega

set_option maxRecDepth 100000 in
set_option maxHeartbeats 4000000 in
theorem impl_undoing_any (K n m a : Nat) (o : ByteArray) (w : World) (hf : CodeFit K n o) (hm1 : 1 ≤ m) (hm4 : m ≤ 4) (hm27 : K ^ m ≤ 27) (ham : a < n + m - 1) :
    Calls Try.prog 66 #[.agg #[.int .i64 K, .int .i64 n, .string o], .int .i64 m, .int .i64 a] w fun e w' => e = .returned (undoV K m (undoL K n m a o)) ∧ Ext w w' := by
  have hk2 := hf.k2
  have hk3 := hf.k3
  have hn1 := hf.n1
  have hn4 := hf.n4
  have hWs := undo_small hk2 hf.le hm27 hn1
  obtain ⟨M, hM⟩ : ∃ M, M = K ^ m := ⟨_, rfl⟩
  obtain ⟨V, hV⟩ : ∃ V, V = K ^ (n + m - 1) := ⟨_, rfl⟩
  have hpw := impl_power_any (K : Int) (m : Int)
  have hpw : ∀ w, Calls Try.prog 65 #[.int .i64 K, .int .i64 m] w fun e w' => e = .returned (.int .i64 (M : Nat)) ∧ w = w' := by
    intro w
    have h := hpw w (by omega) (by omega) (by omega) (by omega)
    rw [pw_nat, ← hM] at h
    exact h
  have hM27 : M ≤ 27 := by omega
  have hM1 : 0 < M := by rw [hM]; exact Nat.pow_pos (by omega)
  have hV1 : 0 < V := by rw [hV]; exact Nat.pow_pos (by omega)
  rw [← hV] at hWs
  obtain ⟨d, hd⟩ : ∃ d, d = n + m - 1 := ⟨_, rfl⟩
  have hdi : (n : Int) + (m : Int) - 1 = (d : Int) := by omega
  have hd16 : d ≤ 7 := by omega
  have had : a < d := by omega
  rw [← hd] at hV
  have hwo : ∀ w, Calls Try.prog 54 #[.int .i64 K, .int .i64 d] w fun e w' => ∃ v, e = .returned v ∧ Own w' w.heap.size 9 v (scells (wordsL K d)) ∧ Ext w w' :=
    fun w => impl_wordsOf_any K d w (by omega) hk3 (by omega) (by rw [← hV]; omega)
  obtain ⟨r, hr⟩ : ∃ r, r = undoL K n m a o := ⟨_, rfl⟩
  rw [← hr]
  have HM := Lib.hid (And.intro hM (And.intro hV (And.intro hd hr)))
  have HP := Lib.hid hpw
  have HW := Lib.hid hwo
  clear hM hV hpw hd hwo hr
  have hmk := run_make_row' (P := Try.prog) 22 5 (.int .u8 0) 1 Try.underlying22 infoU8 rfl .i64 .i64 M (by omega) (by omega)
  go_enter Try.func66, Try.ntmps66
  go_wp2_with fail
  with_reducible refine (HP.out _).mono ?_
  rintro e w1 ⟨rfl, rfl⟩
  go_wp2_with fail
  with_reducible refine (HW.out _).mono ?_
  rintro e w2 ⟨v26, rfl, hw, hx2⟩
  have hwl : (scells (wordsL K d)).length = V := by rw [HM.out.2.1]; simp [scells, wordsL]
  have hsh := hw.shape
  rw [hwl] at hsh
  rcases hsh with ⟨_, hnil⟩ | ⟨g, cap, rfl, hg, _, _, _⟩
  · exfalso
    rw [hnil] at hwl
    simp at hwl
    omega
  have HWL := Lib.hid hwl
  clear hwl
  have bo := (show Blk _ w.heap.size #[.int .i64 K, .int .i64 n, .string o] by (repeat (first | (refine Blk.mk' ?_; (simp; done)) | apply Blk.old))).ext hx2
  have br := (show Blk _ (w.heap.size + 1) #[.int .i64 0, .int .i64 0, .string ⟨#[]⟩] by (repeat (first | (refine Blk.mk' ?_; (simp; done)) | apply Blk.old))).ext hx2
  have hz := (Own.made ((w.alloc (.cells #[.int .i64 K, .int .i64 n, .string o] 25)).alloc (.cells #[.int .i64 0, .int .i64 0, .string ⟨#[]⟩] 25)) 5 (.int .u8 0) M (by unfold maxLen; omega)).ext hx2
  simp only [World.size_alloc] at hz hg
  have hz : Own w2 w.heap.size 5 (.slice (some ⟨w.heap.size + 1 + 1, 0, none⟩) M M) (bcells (List.replicate M 0)) := by rw [bcells_replicate]; exact hz.mono (by omega)
  have hg2 : w.heap.size + 1 + 1 < g := by omega
  have hwg := hw.mono (B' := w.heap.size) (by simp; omega)
  have hx : Ext w w2 := Ext.trans (by (repeat (first | exact (Ext.refl w) | exact Ext.refl _ | exact Ext.alloc _ _ | refine Ext.alloced ?_ _ | (refine Ext.stored ?_ ?_; rotate_left; (· (first | (show _ ≤ _; omega) | (simp; done) | (simp; omega))))))) hx2
  clear hx2 hg hw hmk
  go_wp2
  go_loopw [28] (fun i wr => ∃ (k : Nat) (t : List UInt8), k ≤ V ∧ i = .int .i64 k ∧ undoTo K n m a o k = some t ∧ Own wr w.heap.size 5 (.slice (some ⟨w.heap.size + 1 + 1, 0, none⟩) M M) (bcells t) ∧ Own wr w.heap.size 9 (.slice (some ⟨g, 0, none⟩) V cap) (scells (wordsL K d)) ∧ Ext w wr ∧ Blk wr w.heap.size #[.int .i64 K, .int .i64 n, .string o] ∧ Blk wr (w.heap.size + 1) #[.int .i64 0, .int .i64 0, .string ⟨#[]⟩]) (fun i _ => V - (intOf i).toNat)
  case atStart => exact ⟨0, List.replicate M 0, by omega, rfl, by rw [undoTo_zero, HM.out.1], hz, hwg, hx, bo, br⟩
  case round =>
    clear hz hwg hx bo br
    obtain ⟨k, t, hk, rfl, htk, hz, hwg, hx, bo, br⟩ := hrel
    obtain ⟨c0, c1, c2, -, -, -⟩ := bo.c3
    have htl := undoTo_length htk
    rw [← HM.out.1] at htl
    have HTK := Lib.hid (And.intro htk htl)
    clear htk
    by_cases hlt : k < V
    · have hcell0 := hwg.cell k (by rw [HWL.out]; exact hlt)
      have hlw : k < (wordsL K d).length := by have := HWL.out; simp [scells] at this; omega
      obtain ⟨u, hu⟩ : ∃ u, u = (wordsL K d)[k] := ⟨_, rfl⟩
      have hcell : wr.cell? ⟨g, k, none⟩ = some (.string (mkS u)) := by
        rw [hcell0, hu]
        simp [scells]
      clear hcell0
      have huk : (wordsL K (n + m - 1))[k]? = some u := by rw [← HM.out.2.2.1, hu]; exact List.getElem?_eq_getElem hlw
      have hum : u.length = d ∧ areLet K u = true := by
        refine mem_wordsL (n := d) ?_ (by omega) hk3
        rw [hu]
        exact List.getElem_mem _
      have haul := applyL_length K n o u
      have hauls : (mkS (applyL K n o u)).size ≤ 16 := by rw [mkS_size, haul]; omega
      have haua := areLet_apply hf.size hf.lets hum.2
      have hidx := idxL_lt K (applyL K n o u) haua
      have hdm : (applyL K n o u).length = m := by have := HM.out.2.2.1; omega
      rw [hdm, ← HM.out.1] at hidx
      have hca := fun w => impl_apply_any K n o (mkS u) w hf (by rw [mkS_size]; omega) (by rw [mkS_data]; exact hum.2)
      have hci := fun w => impl_indexOf_any K (mkS (applyL K n o u)) w (by omega) hk3 hauls (by rw [mkS_data]; exact haua)
      rw [mkS_data] at hca hci
      have hsnoc := undoTo_succ K n m a o k u huk
      rw [HTK.out.1] at hsnoc
      obtain ⟨x, hxx⟩ : ∃ x, x = idxL K (applyL K n o u) := ⟨_, rfl⟩
      obtain ⟨b, hb⟩ : ∃ b, b = t.getD x 0 := ⟨_, rfl⟩
      obtain ⟨c, hc⟩ : ∃ c, c = u.getD a 0 := ⟨_, rfl⟩
      have hstep : undoTo K n m a o (k + 1) = if (b != 0 && b != c) = true then none else some (t.set x c) := by
        rw [hsnoc, undoStep, Option.bind_some, ← hxx, ← hb, ← hc]
      rw [← hxx] at hci hidx
      have hus : (mkS u).size = d := by rw [mkS_size]; exact hum.1
      have hau : a < (mkS u).size := by omega
      have hgc : (mkS u)[a] = c := by rw [mkS_get, hc]
      have hcb := hz.cell x (by rw [bcells_length, htl]; exact hidx)
      rw [bcells_at _ _ (by rw [htl]; exact hidx), ← hb] at hcb
      have hfb := hz.frozen x
      obtain ⟨S, hS⟩ : ∃ S, S = mkS u := ⟨_, rfl⟩
      have hgc : ∀ h : a < S.size, S[a] = c := by subst hS; intro _; exact hgc
      rw [← hS] at hcell hau hca
      have hgc := hgc hau
      obtain ⟨A, hA⟩ : ∃ A, A = mkS (applyL K n o u) := ⟨_, rfl⟩
      rw [← hA] at hca hci
      have HS := Lib.hid (And.intro hstep (And.intro hca hci))
      clear haul hauls haua hdm hca hci hsnoc hxx hb hc hstep hus hS huk hum hu hlw hA
      go_wp2
      refine wp_region_inv (by kernel_rfl) (.known ?hx5_44_v0 :: .known ?hx5_44_v1 :: .known ?hx5_44_v2 :: .known ?hx5_44_v3 :: .known (.string A) :: .known (.int .i64 (x : Nat)) :: .known ?hx5_44_v6 :: []) rfl (by kernel_rfl) ?hx5_44_s ?hx5_44_p
      case hx5_44_s =>
        intro vs
        refine ⟨fun w' hxw hj => ?_, fun w' hxw hj => ?_, fun w' hxw hj => ?_, fun w' hxw hj => ?_, fun w' hxw hj => ?_, fun w' hxw hj => ?_, fun w' hxw hj => ?_, trivial⟩
        · have c0 := Ext.cell_some hxw c0
          have c1 := Ext.cell_some hxw c1
          have c2 := Ext.cell_some hxw c2
          have hcell := Ext.cell_some hxw hcell
          have hcb := Ext.cell_some hxw hcb
          clear hj
          go_simp
          try go_bits
          first | rfl | (rw [if_pos (by omega), if_pos (by omega)]; go_simp; rfl) | (rw [if_pos (by omega)]; go_simp; rfl) | skip
        · have c0 := Ext.cell_some hxw c0
          have c1 := Ext.cell_some hxw c1
          have c2 := Ext.cell_some hxw c2
          have hcell := Ext.cell_some hxw hcell
          have hcb := Ext.cell_some hxw hcb
          clear hj
          go_simp
          try go_bits
          first | rfl | (rw [if_pos (by omega), if_pos (by omega)]; go_simp; rfl) | (rw [if_pos (by omega)]; go_simp; rfl) | skip
        · have c0 := Ext.cell_some hxw c0
          have c1 := Ext.cell_some hxw c1
          have c2 := Ext.cell_some hxw c2
          have hcell := Ext.cell_some hxw hcell
          have hcb := Ext.cell_some hxw hcb
          clear hj
          go_simp
          try go_bits
          first | rfl | (rw [if_pos (by omega), if_pos (by omega)]; go_simp; rfl) | (rw [if_pos (by omega)]; go_simp; rfl) | skip
        · have c0 := Ext.cell_some hxw c0
          have c1 := Ext.cell_some hxw c1
          have c2 := Ext.cell_some hxw c2
          have hcell := Ext.cell_some hxw hcell
          have hcb := Ext.cell_some hxw hcb
          clear hj
          go_simp
          try go_bits
          first | rfl | (rw [if_pos (by omega), if_pos (by omega)]; go_simp; rfl) | (rw [if_pos (by omega)]; go_simp; rfl) | skip
        · have c0 := Ext.cell_some hxw c0
          have c1 := Ext.cell_some hxw c1
          have c2 := Ext.cell_some hxw c2
          have hcell := Ext.cell_some hxw hcell
          have hcb := Ext.cell_some hxw hcb
          clear hj
          go_simp
          try go_bits
          exact HS.out.2.1 _
        · have c0 := Ext.cell_some hxw c0
          have c1 := Ext.cell_some hxw c1
          have c2 := Ext.cell_some hxw c2
          have hcell := Ext.cell_some hxw hcell
          have hcb := Ext.cell_some hxw hcb
          clear hj
          go_simp
          try go_bits
          exact (HS.out.2.2 _).mono fun _ _ ⟨h1, h2⟩ => ⟨h1, h2 ▸ Ext.refl _⟩
        · have c0 := Ext.cell_some hxw c0
          have c1 := Ext.cell_some hxw c1
          have c2 := Ext.cell_some hxw c2
          have hcell := Ext.cell_some hxw hcell
          have hcb := Ext.cell_some hxw hcb
          clear hj
          go_simp
          try go_bits
          first | rfl | (rw [if_pos (by omega), if_pos (by omega)]; go_simp; rfl) | (rw [if_pos (by omega)]; go_simp; rfl) | skip
      case' hx5_44_p =>
        intro vs w5 hx5 hk
        clear hk
        replace c0 := Ext.cell_some hx5 c0
        replace c1 := Ext.cell_some hx5 c1
        replace c2 := Ext.cell_some hx5 c2
        replace hcell := Ext.cell_some hx5 hcell
        replace hcb := Ext.cell_some hx5 hcb
        replace hz := Own.ext hz hx5
        replace hwg := Own.ext hwg hx5
        replace bo := Blk.ext bo hx5
        replace br := Blk.ext br hx5
        replace hx := Ext.trans hx hx5
        go_simp
        clear hx5
        have hfb := hz.frozen x
        go_wp2
        by_cases hb0 : b = 0
        · have hbn : b.toNat = 0 := by rw [hb0]; rfl
          have HB := Lib.hid (show (b != 0 && b != c) = false by rw [hb0]; rfl)
          clear hb0
          refine wp_region_inv (by kernel_rfl) (.known ?hx6_45_v0 :: .known ?hx6_45_v1 :: .known ?hx6_45_v2 :: .known ?hx6_45_v3 :: .known ?hx6_45_v4 :: .known ?hx6_45_v5 :: .known ?hx6_45_v6 :: .known ?hx6_45_v7 :: .known ?hx6_45_v8 :: .known ?hx6_45_v9 :: .known ?hx6_45_v10 :: .known ?hx6_45_v11 :: .known ?hx6_45_v12 :: .known ?hx6_45_v13 :: .known ?hx6_45_v14 :: []) rfl (by kernel_rfl) ?hx6_45_s ?hx6_45_p
          case hx6_45_s =>
            intro vs
            refine ⟨fun w' hxw hj => ?_, fun w' hxw hj => ?_, fun w' hxw hj => ?_, fun w' hxw hj => ?_, fun w' hxw hj => ?_, fun w' hxw hj => ?_, fun w' hxw hj => ?_, fun w' hxw hj => ?_, fun w' hxw hj => ?_, fun w' hxw hj => ?_, fun w' hxw hj => ?_, fun w' hxw hj => ?_, fun w' hxw hj => ?_, fun w' hxw hj => ?_, fun w' hxw hj => ?_, trivial⟩
            · have c0 := Ext.cell_some hxw c0
              have c1 := Ext.cell_some hxw c1
              have c2 := Ext.cell_some hxw c2
              have hcell := Ext.cell_some hxw hcell
              have hcb := Ext.cell_some hxw hcb
              clear hj
              go_simp
              try go_bits
              first | rfl | (rw [if_pos (by omega), if_pos (by omega)]; go_simp; rfl) | (rw [if_pos (by omega)]; go_simp; rfl) | skip
            · have c0 := Ext.cell_some hxw c0
              have c1 := Ext.cell_some hxw c1
              have c2 := Ext.cell_some hxw c2
              have hcell := Ext.cell_some hxw hcell
              have hcb := Ext.cell_some hxw hcb
              clear hj
              go_simp
              try go_bits
              first | rfl | (rw [if_pos (by omega), if_pos (by omega)]; go_simp; rfl) | (rw [if_pos (by omega)]; go_simp; rfl) | skip
            · have c0 := Ext.cell_some hxw c0
              have c1 := Ext.cell_some hxw c1
              have c2 := Ext.cell_some hxw c2
              have hcell := Ext.cell_some hxw hcell
              have hcb := Ext.cell_some hxw hcb
              clear hj
              go_simp
              try go_bits
              first | rfl | (rw [if_pos (by omega), if_pos (by omega)]; go_simp; rfl) | (rw [if_pos (by omega)]; go_simp; rfl) | skip
            · have c0 := Ext.cell_some hxw c0
              have c1 := Ext.cell_some hxw c1
              have c2 := Ext.cell_some hxw c2
              have hcell := Ext.cell_some hxw hcell
              have hcb := Ext.cell_some hxw hcb
              clear hj
              go_simp
              try go_bits
              first | rfl | (rw [if_pos (by omega), if_pos (by omega)]; go_simp; rfl) | (rw [if_pos (by omega)]; go_simp; rfl) | skip
            · have c0 := Ext.cell_some hxw c0
              have c1 := Ext.cell_some hxw c1
              have c2 := Ext.cell_some hxw c2
              have hcell := Ext.cell_some hxw hcell
              have hcb := Ext.cell_some hxw hcb
              clear hj
              go_simp
              try go_bits
              first | rfl | (rw [if_pos (by omega), if_pos (by omega)]; go_simp; rfl) | (rw [if_pos (by omega)]; go_simp; rfl) | skip
            · have c0 := Ext.cell_some hxw c0
              have c1 := Ext.cell_some hxw c1
              have c2 := Ext.cell_some hxw c2
              have hcell := Ext.cell_some hxw hcell
              have hcb := Ext.cell_some hxw hcb
              clear hj
              go_simp
              try go_bits
              first | rfl | (rw [if_pos (by omega), if_pos (by omega)]; go_simp; rfl) | (rw [if_pos (by omega)]; go_simp; rfl) | skip
            · have c0 := Ext.cell_some hxw c0
              have c1 := Ext.cell_some hxw c1
              have c2 := Ext.cell_some hxw c2
              have hcell := Ext.cell_some hxw hcell
              have hcb := Ext.cell_some hxw hcb
              clear hj
              go_simp
              try go_bits
              first | rfl | (rw [if_pos (by omega), if_pos (by omega)]; go_simp; rfl) | (rw [if_pos (by omega)]; go_simp; rfl) | skip
            · have c0 := Ext.cell_some hxw c0
              have c1 := Ext.cell_some hxw c1
              have c2 := Ext.cell_some hxw c2
              have hcell := Ext.cell_some hxw hcell
              have hcb := Ext.cell_some hxw hcb
              clear hj
              go_simp
              try go_bits
              first | rfl | (rw [if_pos (by omega), if_pos (by omega)]; go_simp; rfl) | (rw [if_pos (by omega)]; go_simp; rfl) | skip
            · have c0 := Ext.cell_some hxw c0
              have c1 := Ext.cell_some hxw c1
              have c2 := Ext.cell_some hxw c2
              have hcell := Ext.cell_some hxw hcell
              have hcb := Ext.cell_some hxw hcb
              clear hj
              go_simp
              try go_bits
              first | rfl | (rw [if_pos (by omega), if_pos (by omega)]; go_simp; rfl) | (rw [if_pos (by omega)]; go_simp; rfl) | skip
            · have c0 := Ext.cell_some hxw c0
              have c1 := Ext.cell_some hxw c1
              have c2 := Ext.cell_some hxw c2
              have hcell := Ext.cell_some hxw hcell
              have hcb := Ext.cell_some hxw hcb
              clear hj
              go_simp
              try go_bits
              first | rfl | (rw [if_pos (by omega), if_pos (by omega)]; go_simp; rfl) | (rw [if_pos (by omega)]; go_simp; rfl) | skip
            · have c0 := Ext.cell_some hxw c0
              have c1 := Ext.cell_some hxw c1
              have c2 := Ext.cell_some hxw c2
              have hcell := Ext.cell_some hxw hcell
              have hcb := Ext.cell_some hxw hcb
              clear hj
              go_simp
              try go_bits
              first | rfl | (rw [if_pos (by omega), if_pos (by omega)]; go_simp; rfl) | (rw [if_pos (by omega)]; go_simp; rfl) | skip
            · have c0 := Ext.cell_some hxw c0
              have c1 := Ext.cell_some hxw c1
              have c2 := Ext.cell_some hxw c2
              have hcell := Ext.cell_some hxw hcell
              have hcb := Ext.cell_some hxw hcb
              clear hj
              go_simp
              try go_bits
              first | rfl | (rw [if_pos (by omega), if_pos (by omega)]; go_simp; rfl) | (rw [if_pos (by omega)]; go_simp; rfl) | skip
            · have c0 := Ext.cell_some hxw c0
              have c1 := Ext.cell_some hxw c1
              have c2 := Ext.cell_some hxw c2
              have hcell := Ext.cell_some hxw hcell
              have hcb := Ext.cell_some hxw hcb
              clear hj
              go_simp
              try go_bits
              first | rfl | (rw [if_pos (by omega), if_pos (by omega)]; go_simp; rfl) | (rw [if_pos (by omega)]; go_simp; rfl) | skip
            · have c0 := Ext.cell_some hxw c0
              have c1 := Ext.cell_some hxw c1
              have c2 := Ext.cell_some hxw c2
              have hcell := Ext.cell_some hxw hcell
              have hcb := Ext.cell_some hxw hcb
              clear hj
              go_simp
              try go_bits
              first | rfl | (rw [if_pos (by omega), if_pos (by omega)]; go_simp; rfl) | (rw [if_pos (by omega)]; go_simp; rfl) | skip
            · have c0 := Ext.cell_some hxw c0
              have c1 := Ext.cell_some hxw c1
              have c2 := Ext.cell_some hxw c2
              have hcell := Ext.cell_some hxw hcell
              have hcb := Ext.cell_some hxw hcb
              clear hj
              go_simp
              try go_bits
              first | rfl | (rw [if_pos (by omega), if_pos (by omega)]; go_simp; rfl) | (rw [if_pos (by omega)]; go_simp; rfl) | skip
          case' hx6_45_p =>
            intro vs w6 hx6 hk
            clear hk
            replace c0 := Ext.cell_some hx6 c0
            replace c1 := Ext.cell_some hx6 c1
            replace c2 := Ext.cell_some hx6 c2
            replace hcell := Ext.cell_some hx6 hcell
            replace hcb := Ext.cell_some hx6 hcb
            replace hz := Own.ext hz hx6
            replace hwg := Own.ext hwg hx6
            replace bo := Blk.ext bo hx6
            replace br := Blk.ext br hx6
            replace hx := Ext.trans hx hx6
            go_simp
            clear hx6
            have hfb := hz.frozen x
            have hz' := hz.store x (.int .u8 (c.toNat : Int))
            rw [bcells_set] at hz'
            have hwg' := Own.other hwg (g2 := w.heap.size + 1 + 1) (by omega) x (.int .u8 (c.toNat : Int))
            have bo' := bo.other (b' := w.heap.size + 1 + 1) (i := x) (by omega) (.int .u8 (c.toNat : Int))
            have br' := br.other (b' := w.heap.size + 1 + 1) (i := x) (by omega) (.int .u8 (c.toNat : Int))
            have hx' : Ext w (w6.setCell ⟨w.heap.size + 1 + 1, x, none⟩ (.int .u8 (c.toNat : Int))) := Ext.stored hx (by show _ ≤ w.heap.size + 1 + 1; omega)
            clear hz hwg bo br hx
            go_wp2
            go_roundw
            case rel => exact ⟨k + 1, t.set x c, by omega, by go_num, by rw [HS.out.1, HB.out]; rfl, hz', hwg', hx', bo', br'⟩
            case measure => simp [intOf]; omega
        · have hbn : ¬ b.toNat = 0 := fun h => hb0 (UInt8.toNat_inj.1 h)
          by_cases hbc : b = c
          · obtain rfl : c = b := hbc.symm
            have HB := Lib.hid (show (c != 0 && c != c) = false by simp)
            clear hb0 hbc
            refine wp_region_inv (by kernel_rfl) (.known ?hx6_46_v0 :: .known ?hx6_46_v1 :: .known ?hx6_46_v2 :: .known ?hx6_46_v3 :: .known ?hx6_46_v4 :: .known ?hx6_46_v5 :: .known ?hx6_46_v6 :: .known ?hx6_46_v7 :: .known ?hx6_46_v8 :: .known ?hx6_46_v9 :: .known ?hx6_46_v10 :: .known ?hx6_46_v11 :: .known ?hx6_46_v12 :: .known ?hx6_46_v13 :: .known ?hx6_46_v14 :: []) rfl (by kernel_rfl) ?hx6_46_s ?hx6_46_p
            case hx6_46_s =>
              intro vs
              refine ⟨fun w' hxw hj => ?_, fun w' hxw hj => ?_, fun w' hxw hj => ?_, fun w' hxw hj => ?_, fun w' hxw hj => ?_, fun w' hxw hj => ?_, fun w' hxw hj => ?_, fun w' hxw hj => ?_, fun w' hxw hj => ?_, fun w' hxw hj => ?_, fun w' hxw hj => ?_, fun w' hxw hj => ?_, fun w' hxw hj => ?_, fun w' hxw hj => ?_, fun w' hxw hj => ?_, trivial⟩
              · have c0 := Ext.cell_some hxw c0
                have c1 := Ext.cell_some hxw c1
                have c2 := Ext.cell_some hxw c2
                have hcell := Ext.cell_some hxw hcell
                have hcb := Ext.cell_some hxw hcb
                clear hj
                go_simp
                try go_bits
                first | rfl | (rw [if_pos (by omega), if_pos (by omega)]; go_simp; rfl) | (rw [if_pos (by omega)]; go_simp; rfl) | skip
              · have c0 := Ext.cell_some hxw c0
                have c1 := Ext.cell_some hxw c1
                have c2 := Ext.cell_some hxw c2
                have hcell := Ext.cell_some hxw hcell
                have hcb := Ext.cell_some hxw hcb
                clear hj
                go_simp
                try go_bits
                first | rfl | (rw [if_pos (by omega), if_pos (by omega)]; go_simp; rfl) | (rw [if_pos (by omega)]; go_simp; rfl) | skip
              · have c0 := Ext.cell_some hxw c0
                have c1 := Ext.cell_some hxw c1
                have c2 := Ext.cell_some hxw c2
                have hcell := Ext.cell_some hxw hcell
                have hcb := Ext.cell_some hxw hcb
                clear hj
                go_simp
                try go_bits
                first | rfl | (rw [if_pos (by omega), if_pos (by omega)]; go_simp; rfl) | (rw [if_pos (by omega)]; go_simp; rfl) | skip
              · have c0 := Ext.cell_some hxw c0
                have c1 := Ext.cell_some hxw c1
                have c2 := Ext.cell_some hxw c2
                have hcell := Ext.cell_some hxw hcell
                have hcb := Ext.cell_some hxw hcb
                clear hj
                go_simp
                try go_bits
                first | rfl | (rw [if_pos (by omega), if_pos (by omega)]; go_simp; rfl) | (rw [if_pos (by omega)]; go_simp; rfl) | skip
              · have c0 := Ext.cell_some hxw c0
                have c1 := Ext.cell_some hxw c1
                have c2 := Ext.cell_some hxw c2
                have hcell := Ext.cell_some hxw hcell
                have hcb := Ext.cell_some hxw hcb
                clear hj
                go_simp
                try go_bits
                first | rfl | (rw [if_pos (by omega), if_pos (by omega)]; go_simp; rfl) | (rw [if_pos (by omega)]; go_simp; rfl) | skip
              · have c0 := Ext.cell_some hxw c0
                have c1 := Ext.cell_some hxw c1
                have c2 := Ext.cell_some hxw c2
                have hcell := Ext.cell_some hxw hcell
                have hcb := Ext.cell_some hxw hcb
                clear hj
                go_simp
                try go_bits
                first | rfl | (rw [if_pos (by omega), if_pos (by omega)]; go_simp; rfl) | (rw [if_pos (by omega)]; go_simp; rfl) | skip
              · have c0 := Ext.cell_some hxw c0
                have c1 := Ext.cell_some hxw c1
                have c2 := Ext.cell_some hxw c2
                have hcell := Ext.cell_some hxw hcell
                have hcb := Ext.cell_some hxw hcb
                clear hj
                go_simp
                try go_bits
                first | rfl | (rw [if_pos (by omega), if_pos (by omega)]; go_simp; rfl) | (rw [if_pos (by omega)]; go_simp; rfl) | skip
              · have c0 := Ext.cell_some hxw c0
                have c1 := Ext.cell_some hxw c1
                have c2 := Ext.cell_some hxw c2
                have hcell := Ext.cell_some hxw hcell
                have hcb := Ext.cell_some hxw hcb
                clear hj
                go_simp
                try go_bits
                first | rfl | (rw [if_pos (by omega), if_pos (by omega)]; go_simp; rfl) | (rw [if_pos (by omega)]; go_simp; rfl) | skip
              · have c0 := Ext.cell_some hxw c0
                have c1 := Ext.cell_some hxw c1
                have c2 := Ext.cell_some hxw c2
                have hcell := Ext.cell_some hxw hcell
                have hcb := Ext.cell_some hxw hcb
                clear hj
                go_simp
                try go_bits
                first | rfl | (rw [if_pos (by omega), if_pos (by omega)]; go_simp; rfl) | (rw [if_pos (by omega)]; go_simp; rfl) | skip
              · have c0 := Ext.cell_some hxw c0
                have c1 := Ext.cell_some hxw c1
                have c2 := Ext.cell_some hxw c2
                have hcell := Ext.cell_some hxw hcell
                have hcb := Ext.cell_some hxw hcb
                clear hj
                go_simp
                try go_bits
                first | rfl | (rw [if_pos (by omega), if_pos (by omega)]; go_simp; rfl) | (rw [if_pos (by omega)]; go_simp; rfl) | skip
              · have c0 := Ext.cell_some hxw c0
                have c1 := Ext.cell_some hxw c1
                have c2 := Ext.cell_some hxw c2
                have hcell := Ext.cell_some hxw hcell
                have hcb := Ext.cell_some hxw hcb
                clear hj
                go_simp
                try go_bits
                first | rfl | (rw [if_pos (by omega), if_pos (by omega)]; go_simp; rfl) | (rw [if_pos (by omega)]; go_simp; rfl) | skip
              · have c0 := Ext.cell_some hxw c0
                have c1 := Ext.cell_some hxw c1
                have c2 := Ext.cell_some hxw c2
                have hcell := Ext.cell_some hxw hcell
                have hcb := Ext.cell_some hxw hcb
                clear hj
                go_simp
                try go_bits
                first | rfl | (rw [if_pos (by omega), if_pos (by omega)]; go_simp; rfl) | (rw [if_pos (by omega)]; go_simp; rfl) | skip
              · have c0 := Ext.cell_some hxw c0
                have c1 := Ext.cell_some hxw c1
                have c2 := Ext.cell_some hxw c2
                have hcell := Ext.cell_some hxw hcell
                have hcb := Ext.cell_some hxw hcb
                clear hj
                go_simp
                try go_bits
                first | rfl | (rw [if_pos (by omega), if_pos (by omega)]; go_simp; rfl) | (rw [if_pos (by omega)]; go_simp; rfl) | skip
              · have c0 := Ext.cell_some hxw c0
                have c1 := Ext.cell_some hxw c1
                have c2 := Ext.cell_some hxw c2
                have hcell := Ext.cell_some hxw hcell
                have hcb := Ext.cell_some hxw hcb
                clear hj
                go_simp
                try go_bits
                first | rfl | (rw [if_pos (by omega), if_pos (by omega)]; go_simp; rfl) | (rw [if_pos (by omega)]; go_simp; rfl) | skip
              · have c0 := Ext.cell_some hxw c0
                have c1 := Ext.cell_some hxw c1
                have c2 := Ext.cell_some hxw c2
                have hcell := Ext.cell_some hxw hcell
                have hcb := Ext.cell_some hxw hcb
                clear hj
                go_simp
                try go_bits
                first | rfl | (rw [if_pos (by omega), if_pos (by omega)]; go_simp; rfl) | (rw [if_pos (by omega)]; go_simp; rfl) | skip
            case' hx6_46_p =>
              intro vs w6 hx6 hk
              clear hk
              replace c0 := Ext.cell_some hx6 c0
              replace c1 := Ext.cell_some hx6 c1
              replace c2 := Ext.cell_some hx6 c2
              replace hcell := Ext.cell_some hx6 hcell
              replace hcb := Ext.cell_some hx6 hcb
              replace hz := Own.ext hz hx6
              replace hwg := Own.ext hwg hx6
              replace bo := Blk.ext bo hx6
              replace br := Blk.ext br hx6
              replace hx := Ext.trans hx hx6
              go_simp
              clear hx6
              have hfb := hz.frozen x
              have hz' := hz.store x (.int .u8 (c.toNat : Int))
              rw [bcells_set] at hz'
              have hwg' := Own.other hwg (g2 := w.heap.size + 1 + 1) (by omega) x (.int .u8 (c.toNat : Int))
              have bo' := bo.other (b' := w.heap.size + 1 + 1) (i := x) (by omega) (.int .u8 (c.toNat : Int))
              have br' := br.other (b' := w.heap.size + 1 + 1) (i := x) (by omega) (.int .u8 (c.toNat : Int))
              have hx' : Ext w (w6.setCell ⟨w.heap.size + 1 + 1, x, none⟩ (.int .u8 (c.toNat : Int))) := Ext.stored hx (by show _ ≤ w.heap.size + 1 + 1; omega)
              clear hz hwg bo br hx
              go_wp2
              go_roundw
              case rel => exact ⟨k + 1, t.set x c, by omega, by go_num, by rw [HS.out.1, HB.out]; rfl, hz', hwg', hx', bo', br'⟩
              case measure => simp [intOf]; omega
          · have hbcn : ¬ b.toNat = c.toNat := fun h => hbc (UInt8.toNat_inj.1 h)
            have HB := Lib.hid (show (b != 0 && b != c) = true by simp [hb0, hbc])
            have hbb : ((b.toNat : Int) != 0) = true := by simp; omega
            have hbcb : ((b.toNat : Int) != (c.toNat : Int)) = true := by simp; omega
            clear hb0 hbc hbn hbcn
            refine wp_region_inv (by kernel_rfl) (.known ?hx6_47_v0 :: .known ?hx6_47_v1 :: .known ?hx6_47_v2 :: .known ?hx6_47_v3 :: .known ?hx6_47_v4 :: .known ?hx6_47_v5 :: .known ?hx6_47_v6 :: .known ?hx6_47_v7 :: .known ?hx6_47_v8 :: .known ?hx6_47_v9 :: .known ?hx6_47_v10 :: .known ?hx6_47_v11 :: .known ?hx6_47_v12 :: .known ?hx6_47_v13 :: .known ?hx6_47_v14 :: []) rfl (by kernel_rfl) ?hx6_47_s ?hx6_47_p
            case hx6_47_s =>
              intro vs
              refine ⟨fun w' hxw hj => ?_, fun w' hxw hj => ?_, fun w' hxw hj => ?_, fun w' hxw hj => ?_, fun w' hxw hj => ?_, fun w' hxw hj => ?_, fun w' hxw hj => ?_, fun w' hxw hj => ?_, fun w' hxw hj => ?_, fun w' hxw hj => ?_, fun w' hxw hj => ?_, fun w' hxw hj => ?_, fun w' hxw hj => ?_, fun w' hxw hj => ?_, fun w' hxw hj => ?_, trivial⟩
              · have c0 := Ext.cell_some hxw c0
                have c1 := Ext.cell_some hxw c1
                have c2 := Ext.cell_some hxw c2
                have hcell := Ext.cell_some hxw hcell
                have hcb := Ext.cell_some hxw hcb
                clear hj
                go_simp
                try go_bits
                first | rfl | (rw [if_pos (by omega), if_pos (by omega)]; go_simp; rfl) | (rw [if_pos (by omega)]; go_simp; rfl) | skip
              · have c0 := Ext.cell_some hxw c0
                have c1 := Ext.cell_some hxw c1
                have c2 := Ext.cell_some hxw c2
                have hcell := Ext.cell_some hxw hcell
                have hcb := Ext.cell_some hxw hcb
                clear hj
                go_simp
                try go_bits
                first | rfl | (rw [if_pos (by omega), if_pos (by omega)]; go_simp; rfl) | (rw [if_pos (by omega)]; go_simp; rfl) | skip
              · have c0 := Ext.cell_some hxw c0
                have c1 := Ext.cell_some hxw c1
                have c2 := Ext.cell_some hxw c2
                have hcell := Ext.cell_some hxw hcell
                have hcb := Ext.cell_some hxw hcb
                clear hj
                go_simp
                try go_bits
                first | rfl | (rw [if_pos (by omega), if_pos (by omega)]; go_simp; rfl) | (rw [if_pos (by omega)]; go_simp; rfl) | skip
              · have c0 := Ext.cell_some hxw c0
                have c1 := Ext.cell_some hxw c1
                have c2 := Ext.cell_some hxw c2
                have hcell := Ext.cell_some hxw hcell
                have hcb := Ext.cell_some hxw hcb
                clear hj
                go_simp
                try go_bits
                first | rfl | (rw [if_pos (by omega), if_pos (by omega)]; go_simp; rfl) | (rw [if_pos (by omega)]; go_simp; rfl) | skip
              · have c0 := Ext.cell_some hxw c0
                have c1 := Ext.cell_some hxw c1
                have c2 := Ext.cell_some hxw c2
                have hcell := Ext.cell_some hxw hcell
                have hcb := Ext.cell_some hxw hcb
                clear hj
                go_simp
                try go_bits
                first | rfl | (rw [if_pos (by omega), if_pos (by omega)]; go_simp; rfl) | (rw [if_pos (by omega)]; go_simp; rfl) | skip
              · have c0 := Ext.cell_some hxw c0
                have c1 := Ext.cell_some hxw c1
                have c2 := Ext.cell_some hxw c2
                have hcell := Ext.cell_some hxw hcell
                have hcb := Ext.cell_some hxw hcb
                clear hj
                go_simp
                try go_bits
                first | rfl | (rw [if_pos (by omega), if_pos (by omega)]; go_simp; rfl) | (rw [if_pos (by omega)]; go_simp; rfl) | skip
              · have c0 := Ext.cell_some hxw c0
                have c1 := Ext.cell_some hxw c1
                have c2 := Ext.cell_some hxw c2
                have hcell := Ext.cell_some hxw hcell
                have hcb := Ext.cell_some hxw hcb
                clear hj
                go_simp
                try go_bits
                first | rfl | (rw [if_pos (by omega), if_pos (by omega)]; go_simp; rfl) | (rw [if_pos (by omega)]; go_simp; rfl) | skip
              · have c0 := Ext.cell_some hxw c0
                have c1 := Ext.cell_some hxw c1
                have c2 := Ext.cell_some hxw c2
                have hcell := Ext.cell_some hxw hcell
                have hcb := Ext.cell_some hxw hcb
                clear hj
                go_simp
                try go_bits
                first | rfl | (rw [if_pos (by omega), if_pos (by omega)]; go_simp; rfl) | (rw [if_pos (by omega)]; go_simp; rfl) | skip
              · have c0 := Ext.cell_some hxw c0
                have c1 := Ext.cell_some hxw c1
                have c2 := Ext.cell_some hxw c2
                have hcell := Ext.cell_some hxw hcell
                have hcb := Ext.cell_some hxw hcb
                clear hj
                go_simp
                try go_bits
                first | rfl | (rw [if_pos (by omega), if_pos (by omega)]; go_simp; rfl) | (rw [if_pos (by omega)]; go_simp; rfl) | skip
              · have c0 := Ext.cell_some hxw c0
                have c1 := Ext.cell_some hxw c1
                have c2 := Ext.cell_some hxw c2
                have hcell := Ext.cell_some hxw hcell
                have hcb := Ext.cell_some hxw hcb
                clear hj
                go_simp
                try go_bits
                first | rfl | (rw [if_pos (by omega), if_pos (by omega)]; go_simp; rfl) | (rw [if_pos (by omega)]; go_simp; rfl) | skip
              · have c0 := Ext.cell_some hxw c0
                have c1 := Ext.cell_some hxw c1
                have c2 := Ext.cell_some hxw c2
                have hcell := Ext.cell_some hxw hcell
                have hcb := Ext.cell_some hxw hcb
                clear hj
                go_simp
                try go_bits
                first | rfl | (rw [if_pos (by omega), if_pos (by omega)]; go_simp; rfl) | (rw [if_pos (by omega)]; go_simp; rfl) | skip
              · have c0 := Ext.cell_some hxw c0
                have c1 := Ext.cell_some hxw c1
                have c2 := Ext.cell_some hxw c2
                have hcell := Ext.cell_some hxw hcell
                have hcb := Ext.cell_some hxw hcb
                clear hj
                go_simp
                try go_bits
                first | rfl | (rw [if_pos (by omega), if_pos (by omega)]; go_simp; rfl) | (rw [if_pos (by omega)]; go_simp; rfl) | skip
              · have c0 := Ext.cell_some hxw c0
                have c1 := Ext.cell_some hxw c1
                have c2 := Ext.cell_some hxw c2
                have hcell := Ext.cell_some hxw hcell
                have hcb := Ext.cell_some hxw hcb
                clear hj
                go_simp
                try go_bits
                first | rfl | (rw [if_pos (by omega), if_pos (by omega)]; go_simp; rfl) | (rw [if_pos (by omega)]; go_simp; rfl) | skip
              · have c0 := Ext.cell_some hxw c0
                have c1 := Ext.cell_some hxw c1
                have c2 := Ext.cell_some hxw c2
                have hcell := Ext.cell_some hxw hcell
                have hcb := Ext.cell_some hxw hcb
                clear hj
                go_simp
                try go_bits
                first | rfl | (rw [if_pos (by omega), if_pos (by omega)]; go_simp; rfl) | (rw [if_pos (by omega)]; go_simp; rfl) | skip
              · have c0 := Ext.cell_some hxw c0
                have c1 := Ext.cell_some hxw c1
                have c2 := Ext.cell_some hxw c2
                have hcell := Ext.cell_some hxw hcell
                have hcb := Ext.cell_some hxw hcb
                clear hj
                go_simp
                try go_bits
                first | rfl | (rw [if_pos (by omega), if_pos (by omega)]; go_simp; rfl) | (rw [if_pos (by omega)]; go_simp; rfl) | skip
            case' hx6_47_p =>
              intro vs w6 hx6 hk
              clear hk
              replace c0 := Ext.cell_some hx6 c0
              replace c1 := Ext.cell_some hx6 c1
              replace c2 := Ext.cell_some hx6 c2
              replace hcell := Ext.cell_some hx6 hcell
              replace hcb := Ext.cell_some hx6 hcb
              replace hz := Own.ext hz hx6
              replace hwg := Own.ext hwg hx6
              replace bo := Blk.ext bo hx6
              replace br := Blk.ext br hx6
              replace hx := Ext.trans hx hx6
              go_simp
              clear hx6
              obtain ⟨r0, r1, r2, f0, f1, f2⟩ := br.c3
              have hrn : r = none := by rw [HM.out.2.2.2]; exact undoL_none (k := k + 1) (by rw [← HM.out.2.2.1, ← HM.out.2.1]; omega) (by rw [HS.out.1, HB.out]; rfl)
              have HR := Lib.hid hrn
              clear hrn
              go_wp2
              refine bodyPost_ret (v := .tuple #[.agg #[.int .i64 0, .int .i64 0, .string ⟨#[]⟩], .bool false]) ?_ rfl ⟨by rw [HR.out]; rfl, by (repeat (first | exact hx | exact Ext.refl _ | exact Ext.alloc _ _ | refine Ext.alloced ?_ _ | (refine Ext.stored ?_ ?_; rotate_left; (· (first | (show _ ≤ _; omega) | (simp; done) | (simp; omega))))))⟩
              simp [results, Try.results66, go_sem, r0, r1, r2]
    · have hkV : k = V := by omega
      have htu : r = some (t.map fillA) := by
        rw [HM.out.2.2.2]
        unfold undoL
        rw [← HM.out.2.2.1, ← HM.out.2.1, ← hkV, HTK.out.1]
        rfl
      have HTU := Lib.hid (And.intro htu HTK.out.2)
      have hz0 : Own wr w.heap.size 5 (.slice (some ⟨w.heap.size + 1 + 1, 0, none⟩) M M) (bcells (fillTo t 0)) := by rw [fillTo_zero]; exact hz
      subst hkV
      clear htu HTK hz hwg htl
      obtain ⟨wq, rfl⟩ : ∃ wq : World, wq = wr := ⟨_, rfl⟩
      go_wp2
      go_loopw [63] (fun i wr => ∃ j : Nat, j ≤ M ∧ i = .int .i64 j ∧ Own wr w.heap.size 5 (.slice (some ⟨w.heap.size + 1 + 1, 0, none⟩) M M) (bcells (fillTo t j)) ∧ Ext w wr ∧ Blk wr w.heap.size #[.int .i64 K, .int .i64 n, .string o] ∧ Blk wr (w.heap.size + 1) #[.int .i64 0, .int .i64 0, .string ⟨#[]⟩]) (fun i _ => M - (intOf i).toNat)
      case atStart => exact ⟨0, by omega, rfl, hz0, hx, bo, br⟩
      case round =>
        clear hz0 hx bo br c0 c1 c2
        obtain ⟨j, hj, rfl, hz, hx, bo, br⟩ := hrel
        obtain ⟨c0, c1, c2, -, -, -⟩ := bo.c3
        by_cases hlt : j < M
        · have htl := HTU.out.2
          have hfl := fillTo_length t j (by omega)
          have hcb := hz.cell j (by rw [bcells_length]; omega)
          rw [bcells_at _ _ (by omega), fillTo_at t j (by omega)] at hcb
          have hfb := hz.frozen j
          obtain ⟨b, hb⟩ : ∃ b, b = t.getD j 0 := ⟨_, rfl⟩
          have hsucc := fillTo_succ t j (by omega)
          have hkeep := fillTo_keep t j (by omega)
          rw [← hb] at hcb hsucc hkeep
          have HF := Lib.hid (And.intro hsucc hkeep)
          clear htl hfl hb hsucc hkeep
          by_cases hb0 : b = 0
          · have hbn : b.toNat = 0 := by rw [hb0]; rfl
            have HB := Lib.hid (show fillA b = 97 by rw [hb0]; rfl)
            clear hb0
            have hz' := hz.store j (.int .u8 97)
            have e97 : (Value.int .u8 97) = .int .u8 (((97 : UInt8).toNat : Nat) : Int) := rfl
            have hz' : Own (wr.setCell ⟨w.heap.size + 1 + 1, j, none⟩ (.int .u8 97)) w.heap.size 5 (.slice (some ⟨w.heap.size + 1 + 1, 0, none⟩) M M) (bcells (fillTo t (j + 1))) := by
              rw [e97, bcells_set] at hz'
              rw [HF.out.1, HB.out]
              exact hz'
            have bo' := bo.other (b' := w.heap.size + 1 + 1) (i := j) (by omega) (.int .u8 97)
            have br' := br.other (b' := w.heap.size + 1 + 1) (i := j) (by omega) (.int .u8 97)
            have hx' : Ext w (wr.setCell ⟨w.heap.size + 1 + 1, j, none⟩ (.int .u8 97)) := Ext.stored hx (by show _ ≤ w.heap.size + 1 + 1; omega)
            clear hz bo br hx e97
            go_wp2
            go_roundw
            case rel => exact ⟨j + 1, by omega, by go_num, hz', hx', bo', br'⟩
            case measure => simp [intOf]; omega
          · have hbn : ¬ b.toNat = 0 := fun h => hb0 (UInt8.toNat_inj.1 h)
            have HB := Lib.hid (HF.out.2 hb0)
            clear hb0
            go_wp2
            go_roundw
            case rel => exact ⟨j + 1, by omega, by go_num, by rw [HB.out]; exact hz, hx, bo, br⟩
            case measure => simp [intOf]; omega
        · have hjM : j = M := by omega
          subst hjM
          have hall : fillTo t j = t.map fillA := by rw [← HTU.out.2]; exact fillTo_all t
          rw [hall] at hz
          have hcv := run_convert_own (P := Try.prog) (src := 22) (dst := 9) Try.underlying22 Try.underlying5 Try.underlying9 hz
          obtain ⟨r0, r1, r2, f0, f1, f2⟩ := br.c3
          clear hall hz
          go_wp2
          refine bodyPost_ret (v := .tuple #[.agg #[.int .i64 K, .int .i64 m, .string (mkS (t.map fillA))], .bool true]) ?_ rfl ⟨by rw [HTU.out.1]; rfl, by (repeat (first | exact hx | exact Ext.refl _ | exact Ext.alloc _ _ | refine Ext.alloced ?_ _ | (refine Ext.stored ?_ ?_; rotate_left; (· (first | (show _ ≤ _; omega) | (simp; done) | (simp; omega))))))⟩
          simp [results, Try.results66, go_sem, r0, r1, r2, mkS]
end Go.Proofs.Ytfkdpeifnfpldaa

/- Contracts: the pairs that go on, by the reference. -/
import Derived.Test.YtgbbidlbdjbilaaDoorShF
namespace Go.Proofs.YtgbbidlbdjbilaaDoor
open Go.RowKit Go.Cm

theorem let_eq (a b : UInt8) : ((a.toNat : Int) == (b.toNat : Int)) = (a == b) := by
  rw [Bool.eq_iff_iff]
  simp only [beq_iff_eq]
  exact ⟨fun h => UInt8.toNat_inj.1 (by omega), fun h => by rw [h]⟩

set_option maxRecDepth 100000 in
set_option maxHeartbeats 4000000 in
theorem spec_l3Goes_behind (L : Int) (v z : Value) (F st : List (List UInt8)) (u : List UInt8) (w : World) (h : ReadsW w v F) (hz : ReadsW w z st) (hF : ∀ f ∈ F, f.length ≤ 1048576) (hst : ∀ u ∈ st, u.length = 2) (hul : u.length = 2) :
    Calls Tryd.prog 37 #[.agg #[.int .i64 L, v], z, .string (mkS u), .bool true] w fun e w' => e = .returned (.bool (st.any fun x => adjL F u x)) ∧ Ext w w' := by
  obtain ⟨pa, ca, rfl⟩ := h.slice
  obtain ⟨pz, cz, rfl⟩ := hz.slice
  obtain ⟨-, hlz, hcz⟩ := hz.len
  obtain ⟨n, hn⟩ : ∃ n, n = st.length := ⟨_, rfl⟩
  rw [← hn] at hlz hz ⊢
  have hx := Ext.alloc w (.cells #[.int .i64 L, .slice pa F.length ca] 27)
  have bo : Blk (w.alloc (.cells #[.int .i64 L, .slice pa F.length ca] 27)) w.heap.size #[.int .i64 L, .slice pa F.length ca] := by (repeat (first | (refine Blk.mk' ?_; (simp; done)) | apply Blk.old))
  have HM := Lib.hid (And.intro h (And.intro hz (And.intro hn (And.intro hF hst))))
  have hsu : (mkS u).size = u.length := mkS_size u
  have hu1 : 1 < (mkS u).size := by omega
  have hu0 : 0 < (mkS u).size := by omega
  have hu2 : u.length ≤ 2 := by omega
  have i1 : (1 : Int) < (u.length : Int) := by omega
  have i0 : 0 < u.length := by omega
  have i3 : (1 : Int) ≤ (u.length : Int) := by omega
  clear h hz hn hF hst hul
  go_enter Tryd.func37, Tryd.ntmps37
  go_wp2
  go_loopw [9] (fun i wr => ∃ k : Nat, k ≤ n ∧ i = .int .i64 k ∧ (∀ j, j < k → adjL F u (st.getD j []) = false) ∧ Ext (w.alloc (.cells #[.int .i64 L, .slice pa F.length ca] 27)) wr) (fun i _ => n - (intOf i).toNat)
  case atStart => exact ⟨0, by omega, rfl, fun j hj => by omega, Ext.refl _⟩
  case round =>
    obtain ⟨k, hk, rfl, hp, hxr⟩ := hrel
    have HP := Lib.hid hp
    clear hp
    by_cases hlt : k < n
    rotate_left
    · have hkn : k = n := by omega
      have hv : (st.any fun v => adjL F u v) = false := by
        rw [List.any_eq_false]
        intro f hf
        obtain ⟨j, hj, rfl⟩ := List.mem_iff_getElem.1 hf
        have := HP.out j (by rw [hkn, HM.out.2.2.1]; exact hj)
        rw [List.getD_eq_getElem?_getD, List.getElem?_eq_getElem hj, Option.getD_some] at this
        rw [this]; simp
      have HV := Lib.hid hv
      have E := hx.trans hxr
      clear hv
      go_wp2
      go_ret
      exact ⟨ret_bool HV.out.symm, E⟩
    have hkm : k < st.length := by rw [← HM.out.2.2.1]; exact hlt
    have hxa := hx.trans hxr
    obtain ⟨b, o, rfl, hcell⟩ := (HM.out.2.1.ext hxa).at k hkm
    have hxl : (st.getD k []).length = 2 := HM.out.2.2.2.2 _ (by
      rw [List.getD_eq_getElem?_getD, List.getElem?_eq_getElem hkm]
      exact List.getElem_mem hkm)
    have hmem : st.getD k [] ∈ st := by
      rw [List.getD_eq_getElem?_getD, List.getElem?_eq_getElem hkm]
      exact List.getElem_mem hkm
    obtain ⟨x, hx'⟩ : ∃ x, x = st.getD k [] := ⟨_, rfl⟩
    rw [← hx'] at hcell hxl hmem
    have HX := Lib.hid (And.intro hmem hx')
    have hsx : (mkS x).size = x.length := mkS_size x
    have hx1' : 1 < (mkS x).size := by omega
    have hx0' : 0 < (mkS x).size := by omega
    have hx2 : x.length ≤ 2 := by omega
    have j1 : (1 : Int) < (x.length : Int) := by omega
    have j0 : 0 < x.length := by omega
    have j3 : (1 : Int) ≤ (x.length : Int) := by omega
    clear hxl hmem hx' hkm
    have c0 := (bo.ext hxr).cell 0 (.int .i64 L) rfl
    have c1 := (bo.ext hxr).cell 1 (.slice pa F.length ca) rfl
    obtain ⟨c, hc⟩ : ∃ c, c = (u.getD 1 0 == x.getD 0 0) := ⟨_, rfl⟩
    have hcn : ((((mkS x)[0]'hx0').toNat : Int) == (((mkS u)[1]'hu1).toNat : Int)) = c := by
      rw [hc, mkS_get, mkS_get, let_eq, Bool.beq_comm]
    obtain ⟨d, hd⟩ : ∃ d, d = x.drop 1 := ⟨_, rfl⟩
    have hsl1 := mkS_tail x 1
    rw [hsx, ← hd] at hsl1
    have hcat := mkS_append u d
    have hfit : ¬ 9223372036854775807 < u.length + (mkS d).size := by rw [mkS_size, hd, List.length_drop]; omega
    obtain ⟨y, hy⟩ : ∃ y, y = u ++ d := ⟨_, rfl⟩
    rw [← hy] at hcat
    have hyl : y.length ≤ 1048576 := by rw [hy, List.length_append, hd, List.length_drop]; omega
    obtain ⟨av, hav⟩ : ∃ av, av = avoidL F y := ⟨_, rfl⟩
    have hca := fun w h => spec_l3Avoids_any (.slice pa F.length ca) F y w h HM.out.2.2.2.1 hyl
    rw [← hav] at hca
    have hadj : adjL F u x = (c && av) := by
      unfold adjL
      rw [← hc, hav, hy, hd]
    have HC := Lib.hid (And.intro hca hadj)
    clear hc hd hy hyl hav hca hadj
    cases c
    · go_wp2
      refine wp_region_inv (by kernel_rfl) (.known ?hx6_10_v0 :: .known ?hx6_10_v1 :: .known ?hx6_10_v2 :: .known ?hx6_10_v3 :: .known ?hx6_10_v4 :: .known ?hx6_10_v5 :: .known ?hx6_10_v6 :: .known ?hx6_10_v7 :: .known ?hx6_10_v8 :: .known ?hx6_10_v9 :: .known ?hx6_10_v10 :: .known ?hx6_10_v11 :: .known ?hx6_10_v12 :: .known ?hx6_10_v13 :: .known ?hx6_10_v14 :: .known ?hx6_10_v15 :: .known ?hx6_10_v16 :: .known ?hx6_10_v17 :: .known ?hx6_10_v18 :: .known ?hx6_10_v19 :: .known ?hx6_10_v20 :: .known ?hx6_10_v21 :: .known ?hx6_10_v22 :: []) rfl (by kernel_rfl) ?hx6_10_s ?hx6_10_p
      case hx6_10_s =>
        intro vs
        refine ⟨fun w' hxw hj => ?_, fun w' hxw hj => ?_, fun w' hxw hj => ?_, fun w' hxw hj => ?_, fun w' hxw hj => ?_, fun w' hxw hj => ?_, fun w' hxw hj => ?_, fun w' hxw hj => ?_, fun w' hxw hj => ?_, fun w' hxw hj => ?_, fun w' hxw hj => ?_, fun w' hxw hj => ?_, fun w' hxw hj => ?_, fun w' hxw hj => ?_, fun w' hxw hj => ?_, fun w' hxw hj => ?_, fun w' hxw hj => ?_, fun w' hxw hj => ?_, fun w' hxw hj => ?_, fun w' hxw hj => ?_, fun w' hxw hj => ?_, fun w' hxw hj => ?_, fun w' hxw hj => ?_, trivial⟩
        · have c0 := Ext.cell_some hxw c0
          have c1 := Ext.cell_some hxw c1
          have hcell := Ext.cell_some hxw hcell
          clear hj
          go_simp
          try go_bits
          first | rfl | (rw [if_pos (by omega), if_pos (by omega)]; go_simp; rfl) | (rw [if_pos (by omega)]; go_simp; rfl) | skip
        · have c0 := Ext.cell_some hxw c0
          have c1 := Ext.cell_some hxw c1
          have hcell := Ext.cell_some hxw hcell
          clear hj
          go_simp
          try go_bits
          first | rfl | (rw [if_pos (by omega), if_pos (by omega)]; go_simp; rfl) | (rw [if_pos (by omega)]; go_simp; rfl) | skip
        · have c0 := Ext.cell_some hxw c0
          have c1 := Ext.cell_some hxw c1
          have hcell := Ext.cell_some hxw hcell
          clear hj
          go_simp
          try go_bits
          first | rfl | (rw [if_pos (by omega), if_pos (by omega)]; go_simp; rfl) | (rw [if_pos (by omega)]; go_simp; rfl) | skip
        · have c0 := Ext.cell_some hxw c0
          have c1 := Ext.cell_some hxw c1
          have hcell := Ext.cell_some hxw hcell
          clear hj
          go_simp
          try go_bits
          first | rfl | (rw [if_pos (by omega), if_pos (by omega)]; go_simp; rfl) | (rw [if_pos (by omega)]; go_simp; rfl) | skip
        · have c0 := Ext.cell_some hxw c0
          have c1 := Ext.cell_some hxw c1
          have hcell := Ext.cell_some hxw hcell
          clear hj
          go_simp
          try go_bits
          first | rfl | (rw [if_pos (by omega), if_pos (by omega)]; go_simp; rfl) | (rw [if_pos (by omega)]; go_simp; rfl) | skip
        · have c0 := Ext.cell_some hxw c0
          have c1 := Ext.cell_some hxw c1
          have hcell := Ext.cell_some hxw hcell
          clear hj
          go_simp
          try go_bits
          first | rfl | (rw [if_pos (by omega), if_pos (by omega)]; go_simp; rfl) | (rw [if_pos (by omega)]; go_simp; rfl) | skip
        · have c0 := Ext.cell_some hxw c0
          have c1 := Ext.cell_some hxw c1
          have hcell := Ext.cell_some hxw hcell
          clear hj
          go_simp
          try go_bits
          first | rfl | (rw [if_pos (by omega), if_pos (by omega)]; go_simp; rfl) | (rw [if_pos (by omega)]; go_simp; rfl) | skip
        · have c0 := Ext.cell_some hxw c0
          have c1 := Ext.cell_some hxw c1
          have hcell := Ext.cell_some hxw hcell
          clear hj
          go_simp
          try go_bits
          first | rfl | (rw [if_pos (by omega), if_pos (by omega)]; go_simp; rfl) | (rw [if_pos (by omega)]; go_simp; rfl) | skip
        · have c0 := Ext.cell_some hxw c0
          have c1 := Ext.cell_some hxw c1
          have hcell := Ext.cell_some hxw hcell
          clear hj
          go_simp
          try go_bits
          first | rfl | (rw [if_pos (by omega), if_pos (by omega)]; go_simp; rfl) | (rw [if_pos (by omega)]; go_simp; rfl) | skip
        · have c0 := Ext.cell_some hxw c0
          have c1 := Ext.cell_some hxw c1
          have hcell := Ext.cell_some hxw hcell
          clear hj
          go_simp
          try go_bits
          first | rfl | (rw [if_pos (by omega), if_pos (by omega)]; go_simp; rfl) | (rw [if_pos (by omega)]; go_simp; rfl) | skip
        · have c0 := Ext.cell_some hxw c0
          have c1 := Ext.cell_some hxw c1
          have hcell := Ext.cell_some hxw hcell
          clear hj
          go_simp
          try go_bits
          first | rfl | (rw [if_pos (by omega), if_pos (by omega)]; go_simp; rfl) | (rw [if_pos (by omega)]; go_simp; rfl) | skip
        · have c0 := Ext.cell_some hxw c0
          have c1 := Ext.cell_some hxw c1
          have hcell := Ext.cell_some hxw hcell
          clear hj
          go_simp
          try go_bits
          first | rfl | (rw [if_pos (by omega), if_pos (by omega)]; go_simp; rfl) | (rw [if_pos (by omega)]; go_simp; rfl) | skip
        · have c0 := Ext.cell_some hxw c0
          have c1 := Ext.cell_some hxw c1
          have hcell := Ext.cell_some hxw hcell
          clear hj
          go_simp
          try go_bits
          first | rfl | (rw [if_pos (by omega), if_pos (by omega)]; go_simp; rfl) | (rw [if_pos (by omega)]; go_simp; rfl) | skip
        · have c0 := Ext.cell_some hxw c0
          have c1 := Ext.cell_some hxw c1
          have hcell := Ext.cell_some hxw hcell
          clear hj
          go_simp
          try go_bits
          first | rfl | (rw [if_pos (by omega), if_pos (by omega)]; go_simp; rfl) | (rw [if_pos (by omega)]; go_simp; rfl) | skip
        · have c0 := Ext.cell_some hxw c0
          have c1 := Ext.cell_some hxw c1
          have hcell := Ext.cell_some hxw hcell
          clear hj
          go_simp
          try go_bits
          first | rfl | (rw [if_pos (by omega), if_pos (by omega)]; go_simp; rfl) | (rw [if_pos (by omega)]; go_simp; rfl) | skip
        · have c0 := Ext.cell_some hxw c0
          have c1 := Ext.cell_some hxw c1
          have hcell := Ext.cell_some hxw hcell
          clear hj
          go_simp
          try go_bits
          first | rfl | (rw [if_pos (by omega), if_pos (by omega)]; go_simp; rfl) | (rw [if_pos (by omega)]; go_simp; rfl) | skip
        · have c0 := Ext.cell_some hxw c0
          have c1 := Ext.cell_some hxw c1
          have hcell := Ext.cell_some hxw hcell
          clear hj
          go_simp
          try go_bits
          first | rfl | (rw [if_pos (by omega), if_pos (by omega)]; go_simp; rfl) | (rw [if_pos (by omega)]; go_simp; rfl) | skip
        · have c0 := Ext.cell_some hxw c0
          have c1 := Ext.cell_some hxw c1
          have hcell := Ext.cell_some hxw hcell
          clear hj
          go_simp
          try go_bits
          first | rfl | (rw [if_pos (by omega), if_pos (by omega)]; go_simp; rfl) | (rw [if_pos (by omega)]; go_simp; rfl) | skip
        · have c0 := Ext.cell_some hxw c0
          have c1 := Ext.cell_some hxw c1
          have hcell := Ext.cell_some hxw hcell
          clear hj
          go_simp
          try go_bits
          first | rfl | (rw [if_pos (by omega), if_pos (by omega)]; go_simp; rfl) | (rw [if_pos (by omega)]; go_simp; rfl) | skip
        · have c0 := Ext.cell_some hxw c0
          have c1 := Ext.cell_some hxw c1
          have hcell := Ext.cell_some hxw hcell
          clear hj
          go_simp
          try go_bits
          first | rfl | (rw [if_pos (by omega), if_pos (by omega)]; go_simp; rfl) | (rw [if_pos (by omega)]; go_simp; rfl) | skip
        · have c0 := Ext.cell_some hxw c0
          have c1 := Ext.cell_some hxw c1
          have hcell := Ext.cell_some hxw hcell
          clear hj
          go_simp
          try go_bits
          first | rfl | (rw [if_pos (by omega), if_pos (by omega)]; go_simp; rfl) | (rw [if_pos (by omega)]; go_simp; rfl) | skip
        · have c0 := Ext.cell_some hxw c0
          have c1 := Ext.cell_some hxw c1
          have hcell := Ext.cell_some hxw hcell
          clear hj
          go_simp
          try go_bits
          first | rfl | (rw [if_pos (by omega), if_pos (by omega)]; go_simp; rfl) | (rw [if_pos (by omega)]; go_simp; rfl) | skip
        · have c0 := Ext.cell_some hxw c0
          have c1 := Ext.cell_some hxw c1
          have hcell := Ext.cell_some hxw hcell
          clear hj
          go_simp
          try go_bits
          first | rfl | (rw [if_pos (by omega), if_pos (by omega)]; go_simp; rfl) | (rw [if_pos (by omega)]; go_simp; rfl) | skip
      case' hx6_10_p =>
        intro vs w6 hx6 hk
        clear hk
        replace c0 := Ext.cell_some hx6 c0
        replace c1 := Ext.cell_some hx6 c1
        replace hcell := Ext.cell_some hx6 hcell
        replace hxr := Ext.trans hxr hx6
        replace hxa := Ext.trans hxa hx6
        go_simp
        clear hx6
        go_wp2
        refine wp_region_inv (by kernel_rfl) (.known ?hx7_11_v0 :: .known ?hx7_11_v1 :: .known ?hx7_11_v2 :: .known ?hx7_11_v3 :: .known ?hx7_11_v4 :: .known ?hx7_11_v5 :: .known ?hx7_11_v6 :: .known ?hx7_11_v7 :: .known ?hx7_11_v8 :: .known ?hx7_11_v9 :: .known ?hx7_11_v10 :: .known ?hx7_11_v11 :: .known ?hx7_11_v12 :: .known ?hx7_11_v13 :: .known ?hx7_11_v14 :: .known ?hx7_11_v15 :: .known ?hx7_11_v16 :: .known ?hx7_11_v17 :: .known ?hx7_11_v18 :: .known ?hx7_11_v19 :: .known ?hx7_11_v20 :: .known ?hx7_11_v21 :: .known ?hx7_11_v22 :: .known ?hx7_11_v23 :: []) rfl (by kernel_rfl) ?hx7_11_s ?hx7_11_p
        case hx7_11_s =>
          intro vs
          refine ⟨fun w' hxw hj => ?_, fun w' hxw hj => ?_, fun w' hxw hj => ?_, fun w' hxw hj => ?_, fun w' hxw hj => ?_, fun w' hxw hj => ?_, fun w' hxw hj => ?_, fun w' hxw hj => ?_, fun w' hxw hj => ?_, fun w' hxw hj => ?_, fun w' hxw hj => ?_, fun w' hxw hj => ?_, fun w' hxw hj => ?_, fun w' hxw hj => ?_, fun w' hxw hj => ?_, fun w' hxw hj => ?_, fun w' hxw hj => ?_, fun w' hxw hj => ?_, fun w' hxw hj => ?_, fun w' hxw hj => ?_, fun w' hxw hj => ?_, fun w' hxw hj => ?_, fun w' hxw hj => ?_, fun w' hxw hj => ?_, trivial⟩
          · have c0 := Ext.cell_some hxw c0
            have c1 := Ext.cell_some hxw c1
            have hcell := Ext.cell_some hxw hcell
            clear hj
            go_simp
            try go_bits
            first | rfl | (rw [if_pos (by omega), if_pos (by omega)]; go_simp; rfl) | (rw [if_pos (by omega)]; go_simp; rfl) | skip
          · have c0 := Ext.cell_some hxw c0
            have c1 := Ext.cell_some hxw c1
            have hcell := Ext.cell_some hxw hcell
            clear hj
            go_simp
            try go_bits
            first | rfl | (rw [if_pos (by omega), if_pos (by omega)]; go_simp; rfl) | (rw [if_pos (by omega)]; go_simp; rfl) | skip
          · have c0 := Ext.cell_some hxw c0
            have c1 := Ext.cell_some hxw c1
            have hcell := Ext.cell_some hxw hcell
            clear hj
            go_simp
            try go_bits
            first | rfl | (rw [if_pos (by omega), if_pos (by omega)]; go_simp; rfl) | (rw [if_pos (by omega)]; go_simp; rfl) | skip
          · have c0 := Ext.cell_some hxw c0
            have c1 := Ext.cell_some hxw c1
            have hcell := Ext.cell_some hxw hcell
            clear hj
            go_simp
            try go_bits
            first | rfl | (rw [if_pos (by omega), if_pos (by omega)]; go_simp; rfl) | (rw [if_pos (by omega)]; go_simp; rfl) | skip
          · have c0 := Ext.cell_some hxw c0
            have c1 := Ext.cell_some hxw c1
            have hcell := Ext.cell_some hxw hcell
            clear hj
            go_simp
            try go_bits
            first | rfl | (rw [if_pos (by omega), if_pos (by omega)]; go_simp; rfl) | (rw [if_pos (by omega)]; go_simp; rfl) | skip
          · have c0 := Ext.cell_some hxw c0
            have c1 := Ext.cell_some hxw c1
            have hcell := Ext.cell_some hxw hcell
            clear hj
            go_simp
            try go_bits
            first | rfl | (rw [if_pos (by omega), if_pos (by omega)]; go_simp; rfl) | (rw [if_pos (by omega)]; go_simp; rfl) | skip
          · have c0 := Ext.cell_some hxw c0
            have c1 := Ext.cell_some hxw c1
            have hcell := Ext.cell_some hxw hcell
            clear hj
            go_simp
            try go_bits
            first | rfl | (rw [if_pos (by omega), if_pos (by omega)]; go_simp; rfl) | (rw [if_pos (by omega)]; go_simp; rfl) | skip
          · have c0 := Ext.cell_some hxw c0
            have c1 := Ext.cell_some hxw c1
            have hcell := Ext.cell_some hxw hcell
            clear hj
            go_simp
            try go_bits
            first | rfl | (rw [if_pos (by omega), if_pos (by omega)]; go_simp; rfl) | (rw [if_pos (by omega)]; go_simp; rfl) | skip
          · have c0 := Ext.cell_some hxw c0
            have c1 := Ext.cell_some hxw c1
            have hcell := Ext.cell_some hxw hcell
            clear hj
            go_simp
            try go_bits
            first | rfl | (rw [if_pos (by omega), if_pos (by omega)]; go_simp; rfl) | (rw [if_pos (by omega)]; go_simp; rfl) | skip
          · have c0 := Ext.cell_some hxw c0
            have c1 := Ext.cell_some hxw c1
            have hcell := Ext.cell_some hxw hcell
            clear hj
            go_simp
            try go_bits
            first | rfl | (rw [if_pos (by omega), if_pos (by omega)]; go_simp; rfl) | (rw [if_pos (by omega)]; go_simp; rfl) | skip
          · have c0 := Ext.cell_some hxw c0
            have c1 := Ext.cell_some hxw c1
            have hcell := Ext.cell_some hxw hcell
            clear hj
            go_simp
            try go_bits
            first | rfl | (rw [if_pos (by omega), if_pos (by omega)]; go_simp; rfl) | (rw [if_pos (by omega)]; go_simp; rfl) | skip
          · have c0 := Ext.cell_some hxw c0
            have c1 := Ext.cell_some hxw c1
            have hcell := Ext.cell_some hxw hcell
            clear hj
            go_simp
            try go_bits
            first | rfl | (rw [if_pos (by omega), if_pos (by omega)]; go_simp; rfl) | (rw [if_pos (by omega)]; go_simp; rfl) | skip
          · have c0 := Ext.cell_some hxw c0
            have c1 := Ext.cell_some hxw c1
            have hcell := Ext.cell_some hxw hcell
            clear hj
            go_simp
            try go_bits
            first | rfl | (rw [if_pos (by omega), if_pos (by omega)]; go_simp; rfl) | (rw [if_pos (by omega)]; go_simp; rfl) | skip
          · have c0 := Ext.cell_some hxw c0
            have c1 := Ext.cell_some hxw c1
            have hcell := Ext.cell_some hxw hcell
            clear hj
            go_simp
            try go_bits
            first | rfl | (rw [if_pos (by omega), if_pos (by omega)]; go_simp; rfl) | (rw [if_pos (by omega)]; go_simp; rfl) | skip
          · have c0 := Ext.cell_some hxw c0
            have c1 := Ext.cell_some hxw c1
            have hcell := Ext.cell_some hxw hcell
            clear hj
            go_simp
            try go_bits
            first | rfl | (rw [if_pos (by omega), if_pos (by omega)]; go_simp; rfl) | (rw [if_pos (by omega)]; go_simp; rfl) | skip
          · have c0 := Ext.cell_some hxw c0
            have c1 := Ext.cell_some hxw c1
            have hcell := Ext.cell_some hxw hcell
            clear hj
            go_simp
            try go_bits
            first | rfl | (rw [if_pos (by omega), if_pos (by omega)]; go_simp; rfl) | (rw [if_pos (by omega)]; go_simp; rfl) | skip
          · have c0 := Ext.cell_some hxw c0
            have c1 := Ext.cell_some hxw c1
            have hcell := Ext.cell_some hxw hcell
            clear hj
            go_simp
            try go_bits
            first | rfl | (rw [if_pos (by omega), if_pos (by omega)]; go_simp; rfl) | (rw [if_pos (by omega)]; go_simp; rfl) | skip
          · have c0 := Ext.cell_some hxw c0
            have c1 := Ext.cell_some hxw c1
            have hcell := Ext.cell_some hxw hcell
            clear hj
            go_simp
            try go_bits
            first | rfl | (rw [if_pos (by omega), if_pos (by omega)]; go_simp; rfl) | (rw [if_pos (by omega)]; go_simp; rfl) | skip
          · have c0 := Ext.cell_some hxw c0
            have c1 := Ext.cell_some hxw c1
            have hcell := Ext.cell_some hxw hcell
            clear hj
            go_simp
            try go_bits
            first | rfl | (rw [if_pos (by omega), if_pos (by omega)]; go_simp; rfl) | (rw [if_pos (by omega)]; go_simp; rfl) | skip
          · have c0 := Ext.cell_some hxw c0
            have c1 := Ext.cell_some hxw c1
            have hcell := Ext.cell_some hxw hcell
            clear hj
            go_simp
            try go_bits
            first | rfl | (rw [if_pos (by omega), if_pos (by omega)]; go_simp; rfl) | (rw [if_pos (by omega)]; go_simp; rfl) | skip
          · have c0 := Ext.cell_some hxw c0
            have c1 := Ext.cell_some hxw c1
            have hcell := Ext.cell_some hxw hcell
            clear hj
            go_simp
            try go_bits
            first | rfl | (rw [if_pos (by omega), if_pos (by omega)]; go_simp; rfl) | (rw [if_pos (by omega)]; go_simp; rfl) | skip
          · have c0 := Ext.cell_some hxw c0
            have c1 := Ext.cell_some hxw c1
            have hcell := Ext.cell_some hxw hcell
            clear hj
            go_simp
            try go_bits
            first | rfl | (rw [if_pos (by omega), if_pos (by omega)]; go_simp; rfl) | (rw [if_pos (by omega)]; go_simp; rfl) | skip
          · have c0 := Ext.cell_some hxw c0
            have c1 := Ext.cell_some hxw c1
            have hcell := Ext.cell_some hxw hcell
            clear hj
            go_simp
            try go_bits
            first | rfl | (rw [if_pos (by omega), if_pos (by omega)]; go_simp; rfl) | (rw [if_pos (by omega)]; go_simp; rfl) | skip
          · have c0 := Ext.cell_some hxw c0
            have c1 := Ext.cell_some hxw c1
            have hcell := Ext.cell_some hxw hcell
            clear hj
            go_simp
            try go_bits
            first | rfl | (rw [if_pos (by omega), if_pos (by omega)]; go_simp; rfl) | (rw [if_pos (by omega)]; go_simp; rfl) | skip
        case' hx7_11_p =>
          intro vs w7 hx7 hk
          clear hk
          replace c0 := Ext.cell_some hx7 c0
          replace c1 := Ext.cell_some hx7 c1
          replace hcell := Ext.cell_some hx7 hcell
          replace hxr := Ext.trans hxr hx7
          replace hxa := Ext.trans hxa hx7
          go_simp
          clear hx7 c0 c1
          go_wp2
          go_roundw
          case rel => exact ⟨k + 1, by omega, by go_num, fun j hj => by
            by_cases e : j = k
            · subst e; rw [← HX.out.2, HC.out.2]; rfl
            · exact HP.out j (by omega), hxr⟩
          case measure => simp [intOf]; omega
    cases av
    · go_wp2
      refine wp_region_inv (by kernel_rfl) (.known ?hx6_12_v0 :: .known ?hx6_12_v1 :: .known ?hx6_12_v2 :: .known ?hx6_12_v3 :: .known ?hx6_12_v4 :: .known ?hx6_12_v5 :: .known ?hx6_12_v6 :: .known ?hx6_12_v7 :: .known ?hx6_12_v8 :: .known ?hx6_12_v9 :: .known ?hx6_12_v10 :: .known ?hx6_12_v11 :: .known ?hx6_12_v12 :: .known ?hx6_12_v13 :: .known ?hx6_12_v14 :: .known ?hx6_12_v15 :: .known ?hx6_12_v16 :: .known ?hx6_12_v17 :: .known ?hx6_12_v18 :: .known ?hx6_12_v19 :: .known ?hx6_12_v20 :: .known (.bool false) :: .known ?hx6_12_v22 :: []) rfl (by kernel_rfl) ?hx6_12_s ?hx6_12_p
      case hx6_12_s =>
        intro vs
        refine ⟨fun w' hxw hj => ?_, fun w' hxw hj => ?_, fun w' hxw hj => ?_, fun w' hxw hj => ?_, fun w' hxw hj => ?_, fun w' hxw hj => ?_, fun w' hxw hj => ?_, fun w' hxw hj => ?_, fun w' hxw hj => ?_, fun w' hxw hj => ?_, fun w' hxw hj => ?_, fun w' hxw hj => ?_, fun w' hxw hj => ?_, fun w' hxw hj => ?_, fun w' hxw hj => ?_, fun w' hxw hj => ?_, fun w' hxw hj => ?_, fun w' hxw hj => ?_, fun w' hxw hj => ?_, fun w' hxw hj => ?_, fun w' hxw hj => ?_, fun w' hxw hj => ?_, fun w' hxw hj => ?_, trivial⟩
        · have c0 := Ext.cell_some hxw c0
          have c1 := Ext.cell_some hxw c1
          have hcell := Ext.cell_some hxw hcell
          clear hj
          go_simp
          try go_bits
          first | rfl | (rw [if_pos (by omega), if_pos (by omega)]; go_simp; rfl) | (rw [if_pos (by omega)]; go_simp; rfl) | skip
        · have c0 := Ext.cell_some hxw c0
          have c1 := Ext.cell_some hxw c1
          have hcell := Ext.cell_some hxw hcell
          clear hj
          go_simp
          try go_bits
          first | rfl | (rw [if_pos (by omega), if_pos (by omega)]; go_simp; rfl) | (rw [if_pos (by omega)]; go_simp; rfl) | skip
        · have c0 := Ext.cell_some hxw c0
          have c1 := Ext.cell_some hxw c1
          have hcell := Ext.cell_some hxw hcell
          clear hj
          go_simp
          try go_bits
          first | rfl | (rw [if_pos (by omega), if_pos (by omega)]; go_simp; rfl) | (rw [if_pos (by omega)]; go_simp; rfl) | skip
        · have c0 := Ext.cell_some hxw c0
          have c1 := Ext.cell_some hxw c1
          have hcell := Ext.cell_some hxw hcell
          clear hj
          go_simp
          try go_bits
          first | rfl | (rw [if_pos (by omega), if_pos (by omega)]; go_simp; rfl) | (rw [if_pos (by omega)]; go_simp; rfl) | skip
        · have c0 := Ext.cell_some hxw c0
          have c1 := Ext.cell_some hxw c1
          have hcell := Ext.cell_some hxw hcell
          clear hj
          go_simp
          try go_bits
          first | rfl | (rw [if_pos (by omega), if_pos (by omega)]; go_simp; rfl) | (rw [if_pos (by omega)]; go_simp; rfl) | skip
        · have c0 := Ext.cell_some hxw c0
          have c1 := Ext.cell_some hxw c1
          have hcell := Ext.cell_some hxw hcell
          clear hj
          go_simp
          try go_bits
          first | rfl | (rw [if_pos (by omega), if_pos (by omega)]; go_simp; rfl) | (rw [if_pos (by omega)]; go_simp; rfl) | skip
        · have c0 := Ext.cell_some hxw c0
          have c1 := Ext.cell_some hxw c1
          have hcell := Ext.cell_some hxw hcell
          clear hj
          go_simp
          try go_bits
          first | rfl | (rw [if_pos (by omega), if_pos (by omega)]; go_simp; rfl) | (rw [if_pos (by omega)]; go_simp; rfl) | skip
        · have c0 := Ext.cell_some hxw c0
          have c1 := Ext.cell_some hxw c1
          have hcell := Ext.cell_some hxw hcell
          clear hj
          go_simp
          try go_bits
          first | rfl | (rw [if_pos (by omega), if_pos (by omega)]; go_simp; rfl) | (rw [if_pos (by omega)]; go_simp; rfl) | skip
        · have c0 := Ext.cell_some hxw c0
          have c1 := Ext.cell_some hxw c1
          have hcell := Ext.cell_some hxw hcell
          clear hj
          go_simp
          try go_bits
          first | rfl | (rw [if_pos (by omega), if_pos (by omega)]; go_simp; rfl) | (rw [if_pos (by omega)]; go_simp; rfl) | skip
        · have c0 := Ext.cell_some hxw c0
          have c1 := Ext.cell_some hxw c1
          have hcell := Ext.cell_some hxw hcell
          clear hj
          go_simp
          try go_bits
          first | rfl | (rw [if_pos (by omega), if_pos (by omega)]; go_simp; rfl) | (rw [if_pos (by omega)]; go_simp; rfl) | skip
        · have c0 := Ext.cell_some hxw c0
          have c1 := Ext.cell_some hxw c1
          have hcell := Ext.cell_some hxw hcell
          clear hj
          go_simp
          try go_bits
          first | rfl | (rw [if_pos (by omega), if_pos (by omega)]; go_simp; rfl) | (rw [if_pos (by omega)]; go_simp; rfl) | skip
        · have c0 := Ext.cell_some hxw c0
          have c1 := Ext.cell_some hxw c1
          have hcell := Ext.cell_some hxw hcell
          clear hj
          go_simp
          try go_bits
          first | rfl | (rw [if_pos (by omega), if_pos (by omega)]; go_simp; rfl) | (rw [if_pos (by omega)]; go_simp; rfl) | skip
        · have c0 := Ext.cell_some hxw c0
          have c1 := Ext.cell_some hxw c1
          have hcell := Ext.cell_some hxw hcell
          clear hj
          go_simp
          try go_bits
          first | rfl | (rw [if_pos (by omega), if_pos (by omega)]; go_simp; rfl) | (rw [if_pos (by omega)]; go_simp; rfl) | skip
        · have c0 := Ext.cell_some hxw c0
          have c1 := Ext.cell_some hxw c1
          have hcell := Ext.cell_some hxw hcell
          clear hj
          go_simp
          try go_bits
          first | rfl | (rw [if_pos (by omega), if_pos (by omega)]; go_simp; rfl) | (rw [if_pos (by omega)]; go_simp; rfl) | skip
        · have c0 := Ext.cell_some hxw c0
          have c1 := Ext.cell_some hxw c1
          have hcell := Ext.cell_some hxw hcell
          clear hj
          go_simp
          try go_bits
          first | rfl | (rw [if_pos (by omega), if_pos (by omega)]; go_simp; rfl) | (rw [if_pos (by omega)]; go_simp; rfl) | skip
        · have c0 := Ext.cell_some hxw c0
          have c1 := Ext.cell_some hxw c1
          have hcell := Ext.cell_some hxw hcell
          clear hj
          go_simp
          try go_bits
          first | rfl | (rw [if_pos (by omega), if_pos (by omega)]; go_simp; rfl) | (rw [if_pos (by omega)]; go_simp; rfl) | skip
        · have c0 := Ext.cell_some hxw c0
          have c1 := Ext.cell_some hxw c1
          have hcell := Ext.cell_some hxw hcell
          clear hj
          go_simp
          try go_bits
          first | rfl | (rw [if_pos (by omega), if_pos (by omega)]; go_simp; rfl) | (rw [if_pos (by omega)]; go_simp; rfl) | skip
        · have c0 := Ext.cell_some hxw c0
          have c1 := Ext.cell_some hxw c1
          have hcell := Ext.cell_some hxw hcell
          clear hj
          go_simp
          try go_bits
          first | rfl | (rw [if_pos (by omega), if_pos (by omega)]; go_simp; rfl) | (rw [if_pos (by omega)]; go_simp; rfl) | skip
        · have c0 := Ext.cell_some hxw c0
          have c1 := Ext.cell_some hxw c1
          have hcell := Ext.cell_some hxw hcell
          clear hj
          go_simp
          try go_bits
          first | rfl | (rw [if_pos (by omega), if_pos (by omega)]; go_simp; rfl) | (rw [if_pos (by omega)]; go_simp; rfl) | skip
        · have c0 := Ext.cell_some hxw c0
          have c1 := Ext.cell_some hxw c1
          have hcell := Ext.cell_some hxw hcell
          clear hj
          go_simp
          try go_bits
          first | rfl | (rw [if_pos (by omega), if_pos (by omega)]; go_simp; rfl) | (rw [if_pos (by omega)]; go_simp; rfl) | skip
        · have c0 := Ext.cell_some hxw c0
          have c1 := Ext.cell_some hxw c1
          have hcell := Ext.cell_some hxw hcell
          clear hj
          go_simp
          try go_bits
          first | rfl | (rw [if_pos (by omega), if_pos (by omega)]; go_simp; rfl) | (rw [if_pos (by omega)]; go_simp; rfl) | skip
        · have c0 := Ext.cell_some hxw c0
          have c1 := Ext.cell_some hxw c1
          have hcell := Ext.cell_some hxw hcell
          clear hj
          go_simp
          try go_bits
          exact (HC.out.1 _ ((HM.out.1.ext hxa).ext hxw)).mono fun _ _ ⟨h1, h2⟩ => ⟨h1, h2 ▸ Ext.refl _⟩
        · have c0 := Ext.cell_some hxw c0
          have c1 := Ext.cell_some hxw c1
          have hcell := Ext.cell_some hxw hcell
          clear hj
          go_simp
          try go_bits
          first | rfl | (rw [if_pos (by omega), if_pos (by omega)]; go_simp; rfl) | (rw [if_pos (by omega)]; go_simp; rfl) | skip
      case' hx6_12_p =>
        intro vs w6 hx6 hk
        clear hk
        replace c0 := Ext.cell_some hx6 c0
        replace c1 := Ext.cell_some hx6 c1
        replace hcell := Ext.cell_some hx6 hcell
        replace hxr := Ext.trans hxr hx6
        replace hxa := Ext.trans hxa hx6
        go_simp
        clear hx6
        go_wp2
        refine wp_region_inv (by kernel_rfl) (.known ?hx7_13_v0 :: .known ?hx7_13_v1 :: .known ?hx7_13_v2 :: .known ?hx7_13_v3 :: .known ?hx7_13_v4 :: .known ?hx7_13_v5 :: .known ?hx7_13_v6 :: .known ?hx7_13_v7 :: .known ?hx7_13_v8 :: .known ?hx7_13_v9 :: .known ?hx7_13_v10 :: .known ?hx7_13_v11 :: .known ?hx7_13_v12 :: .known ?hx7_13_v13 :: .known ?hx7_13_v14 :: .known ?hx7_13_v15 :: .known ?hx7_13_v16 :: .known ?hx7_13_v17 :: .known ?hx7_13_v18 :: .known ?hx7_13_v19 :: .known ?hx7_13_v20 :: .known ?hx7_13_v21 :: .known ?hx7_13_v22 :: .known ?hx7_13_v23 :: []) rfl (by kernel_rfl) ?hx7_13_s ?hx7_13_p
        case hx7_13_s =>
          intro vs
          refine ⟨fun w' hxw hj => ?_, fun w' hxw hj => ?_, fun w' hxw hj => ?_, fun w' hxw hj => ?_, fun w' hxw hj => ?_, fun w' hxw hj => ?_, fun w' hxw hj => ?_, fun w' hxw hj => ?_, fun w' hxw hj => ?_, fun w' hxw hj => ?_, fun w' hxw hj => ?_, fun w' hxw hj => ?_, fun w' hxw hj => ?_, fun w' hxw hj => ?_, fun w' hxw hj => ?_, fun w' hxw hj => ?_, fun w' hxw hj => ?_, fun w' hxw hj => ?_, fun w' hxw hj => ?_, fun w' hxw hj => ?_, fun w' hxw hj => ?_, fun w' hxw hj => ?_, fun w' hxw hj => ?_, fun w' hxw hj => ?_, trivial⟩
          · have c0 := Ext.cell_some hxw c0
            have c1 := Ext.cell_some hxw c1
            have hcell := Ext.cell_some hxw hcell
            clear hj
            go_simp
            try go_bits
            first | rfl | (rw [if_pos (by omega), if_pos (by omega)]; go_simp; rfl) | (rw [if_pos (by omega)]; go_simp; rfl) | skip
          · have c0 := Ext.cell_some hxw c0
            have c1 := Ext.cell_some hxw c1
            have hcell := Ext.cell_some hxw hcell
            clear hj
            go_simp
            try go_bits
            first | rfl | (rw [if_pos (by omega), if_pos (by omega)]; go_simp; rfl) | (rw [if_pos (by omega)]; go_simp; rfl) | skip
          · have c0 := Ext.cell_some hxw c0
            have c1 := Ext.cell_some hxw c1
            have hcell := Ext.cell_some hxw hcell
            clear hj
            go_simp
            try go_bits
            first | rfl | (rw [if_pos (by omega), if_pos (by omega)]; go_simp; rfl) | (rw [if_pos (by omega)]; go_simp; rfl) | skip
          · have c0 := Ext.cell_some hxw c0
            have c1 := Ext.cell_some hxw c1
            have hcell := Ext.cell_some hxw hcell
            clear hj
            go_simp
            try go_bits
            first | rfl | (rw [if_pos (by omega), if_pos (by omega)]; go_simp; rfl) | (rw [if_pos (by omega)]; go_simp; rfl) | skip
          · have c0 := Ext.cell_some hxw c0
            have c1 := Ext.cell_some hxw c1
            have hcell := Ext.cell_some hxw hcell
            clear hj
            go_simp
            try go_bits
            first | rfl | (rw [if_pos (by omega), if_pos (by omega)]; go_simp; rfl) | (rw [if_pos (by omega)]; go_simp; rfl) | skip
          · have c0 := Ext.cell_some hxw c0
            have c1 := Ext.cell_some hxw c1
            have hcell := Ext.cell_some hxw hcell
            clear hj
            go_simp
            try go_bits
            first | rfl | (rw [if_pos (by omega), if_pos (by omega)]; go_simp; rfl) | (rw [if_pos (by omega)]; go_simp; rfl) | skip
          · have c0 := Ext.cell_some hxw c0
            have c1 := Ext.cell_some hxw c1
            have hcell := Ext.cell_some hxw hcell
            clear hj
            go_simp
            try go_bits
            first | rfl | (rw [if_pos (by omega), if_pos (by omega)]; go_simp; rfl) | (rw [if_pos (by omega)]; go_simp; rfl) | skip
          · have c0 := Ext.cell_some hxw c0
            have c1 := Ext.cell_some hxw c1
            have hcell := Ext.cell_some hxw hcell
            clear hj
            go_simp
            try go_bits
            first | rfl | (rw [if_pos (by omega), if_pos (by omega)]; go_simp; rfl) | (rw [if_pos (by omega)]; go_simp; rfl) | skip
          · have c0 := Ext.cell_some hxw c0
            have c1 := Ext.cell_some hxw c1
            have hcell := Ext.cell_some hxw hcell
            clear hj
            go_simp
            try go_bits
            first | rfl | (rw [if_pos (by omega), if_pos (by omega)]; go_simp; rfl) | (rw [if_pos (by omega)]; go_simp; rfl) | skip
          · have c0 := Ext.cell_some hxw c0
            have c1 := Ext.cell_some hxw c1
            have hcell := Ext.cell_some hxw hcell
            clear hj
            go_simp
            try go_bits
            first | rfl | (rw [if_pos (by omega), if_pos (by omega)]; go_simp; rfl) | (rw [if_pos (by omega)]; go_simp; rfl) | skip
          · have c0 := Ext.cell_some hxw c0
            have c1 := Ext.cell_some hxw c1
            have hcell := Ext.cell_some hxw hcell
            clear hj
            go_simp
            try go_bits
            first | rfl | (rw [if_pos (by omega), if_pos (by omega)]; go_simp; rfl) | (rw [if_pos (by omega)]; go_simp; rfl) | skip
          · have c0 := Ext.cell_some hxw c0
            have c1 := Ext.cell_some hxw c1
            have hcell := Ext.cell_some hxw hcell
            clear hj
            go_simp
            try go_bits
            first | rfl | (rw [if_pos (by omega), if_pos (by omega)]; go_simp; rfl) | (rw [if_pos (by omega)]; go_simp; rfl) | skip
          · have c0 := Ext.cell_some hxw c0
            have c1 := Ext.cell_some hxw c1
            have hcell := Ext.cell_some hxw hcell
            clear hj
            go_simp
            try go_bits
            first | rfl | (rw [if_pos (by omega), if_pos (by omega)]; go_simp; rfl) | (rw [if_pos (by omega)]; go_simp; rfl) | skip
          · have c0 := Ext.cell_some hxw c0
            have c1 := Ext.cell_some hxw c1
            have hcell := Ext.cell_some hxw hcell
            clear hj
            go_simp
            try go_bits
            first | rfl | (rw [if_pos (by omega), if_pos (by omega)]; go_simp; rfl) | (rw [if_pos (by omega)]; go_simp; rfl) | skip
          · have c0 := Ext.cell_some hxw c0
            have c1 := Ext.cell_some hxw c1
            have hcell := Ext.cell_some hxw hcell
            clear hj
            go_simp
            try go_bits
            first | rfl | (rw [if_pos (by omega), if_pos (by omega)]; go_simp; rfl) | (rw [if_pos (by omega)]; go_simp; rfl) | skip
          · have c0 := Ext.cell_some hxw c0
            have c1 := Ext.cell_some hxw c1
            have hcell := Ext.cell_some hxw hcell
            clear hj
            go_simp
            try go_bits
            first | rfl | (rw [if_pos (by omega), if_pos (by omega)]; go_simp; rfl) | (rw [if_pos (by omega)]; go_simp; rfl) | skip
          · have c0 := Ext.cell_some hxw c0
            have c1 := Ext.cell_some hxw c1
            have hcell := Ext.cell_some hxw hcell
            clear hj
            go_simp
            try go_bits
            first | rfl | (rw [if_pos (by omega), if_pos (by omega)]; go_simp; rfl) | (rw [if_pos (by omega)]; go_simp; rfl) | skip
          · have c0 := Ext.cell_some hxw c0
            have c1 := Ext.cell_some hxw c1
            have hcell := Ext.cell_some hxw hcell
            clear hj
            go_simp
            try go_bits
            first | rfl | (rw [if_pos (by omega), if_pos (by omega)]; go_simp; rfl) | (rw [if_pos (by omega)]; go_simp; rfl) | skip
          · have c0 := Ext.cell_some hxw c0
            have c1 := Ext.cell_some hxw c1
            have hcell := Ext.cell_some hxw hcell
            clear hj
            go_simp
            try go_bits
            first | rfl | (rw [if_pos (by omega), if_pos (by omega)]; go_simp; rfl) | (rw [if_pos (by omega)]; go_simp; rfl) | skip
          · have c0 := Ext.cell_some hxw c0
            have c1 := Ext.cell_some hxw c1
            have hcell := Ext.cell_some hxw hcell
            clear hj
            go_simp
            try go_bits
            first | rfl | (rw [if_pos (by omega), if_pos (by omega)]; go_simp; rfl) | (rw [if_pos (by omega)]; go_simp; rfl) | skip
          · have c0 := Ext.cell_some hxw c0
            have c1 := Ext.cell_some hxw c1
            have hcell := Ext.cell_some hxw hcell
            clear hj
            go_simp
            try go_bits
            first | rfl | (rw [if_pos (by omega), if_pos (by omega)]; go_simp; rfl) | (rw [if_pos (by omega)]; go_simp; rfl) | skip
          · have c0 := Ext.cell_some hxw c0
            have c1 := Ext.cell_some hxw c1
            have hcell := Ext.cell_some hxw hcell
            clear hj
            go_simp
            try go_bits
            first | rfl | (rw [if_pos (by omega), if_pos (by omega)]; go_simp; rfl) | (rw [if_pos (by omega)]; go_simp; rfl) | skip
          · have c0 := Ext.cell_some hxw c0
            have c1 := Ext.cell_some hxw c1
            have hcell := Ext.cell_some hxw hcell
            clear hj
            go_simp
            try go_bits
            first | rfl | (rw [if_pos (by omega), if_pos (by omega)]; go_simp; rfl) | (rw [if_pos (by omega)]; go_simp; rfl) | skip
          · have c0 := Ext.cell_some hxw c0
            have c1 := Ext.cell_some hxw c1
            have hcell := Ext.cell_some hxw hcell
            clear hj
            go_simp
            try go_bits
            first | rfl | (rw [if_pos (by omega), if_pos (by omega)]; go_simp; rfl) | (rw [if_pos (by omega)]; go_simp; rfl) | skip
        case' hx7_13_p =>
          intro vs w7 hx7 hk
          clear hk
          replace c0 := Ext.cell_some hx7 c0
          replace c1 := Ext.cell_some hx7 c1
          replace hcell := Ext.cell_some hx7 hcell
          replace hxr := Ext.trans hxr hx7
          replace hxa := Ext.trans hxa hx7
          go_simp
          clear hx7 c0 c1
          go_wp2
          go_roundw
          case rel => exact ⟨k + 1, by omega, by go_num, fun j hj => by
            by_cases e : j = k
            · subst e; rw [← HX.out.2, HC.out.2]; rfl
            · exact HP.out j (by omega), hxr⟩
          case measure => simp [intOf]; omega
    · have HV := Lib.hid (show (st.any fun x => adjL F u x) = true by rw [List.any_eq_true]; exact ⟨x, HX.out.1, by rw [HC.out.2]; rfl⟩)
      go_wp2
      refine wp_region_inv (by kernel_rfl) (.known ?hx6_14_v0 :: .known ?hx6_14_v1 :: .known ?hx6_14_v2 :: .known ?hx6_14_v3 :: .known ?hx6_14_v4 :: .known ?hx6_14_v5 :: .known ?hx6_14_v6 :: .known ?hx6_14_v7 :: .known ?hx6_14_v8 :: .known ?hx6_14_v9 :: .known ?hx6_14_v10 :: .known ?hx6_14_v11 :: .known ?hx6_14_v12 :: .known ?hx6_14_v13 :: .known ?hx6_14_v14 :: .known ?hx6_14_v15 :: .known ?hx6_14_v16 :: .known ?hx6_14_v17 :: .known ?hx6_14_v18 :: .known ?hx6_14_v19 :: .known ?hx6_14_v20 :: .known (.bool true) :: .known ?hx6_14_v22 :: []) rfl (by kernel_rfl) ?hx6_14_s ?hx6_14_p
      case hx6_14_s =>
        intro vs
        refine ⟨fun w' hxw hj => ?_, fun w' hxw hj => ?_, fun w' hxw hj => ?_, fun w' hxw hj => ?_, fun w' hxw hj => ?_, fun w' hxw hj => ?_, fun w' hxw hj => ?_, fun w' hxw hj => ?_, fun w' hxw hj => ?_, fun w' hxw hj => ?_, fun w' hxw hj => ?_, fun w' hxw hj => ?_, fun w' hxw hj => ?_, fun w' hxw hj => ?_, fun w' hxw hj => ?_, fun w' hxw hj => ?_, fun w' hxw hj => ?_, fun w' hxw hj => ?_, fun w' hxw hj => ?_, fun w' hxw hj => ?_, fun w' hxw hj => ?_, fun w' hxw hj => ?_, fun w' hxw hj => ?_, trivial⟩
        · have c0 := Ext.cell_some hxw c0
          have c1 := Ext.cell_some hxw c1
          have hcell := Ext.cell_some hxw hcell
          clear hj
          go_simp
          try go_bits
          first | rfl | (rw [if_pos (by omega), if_pos (by omega)]; go_simp; rfl) | (rw [if_pos (by omega)]; go_simp; rfl) | skip
        · have c0 := Ext.cell_some hxw c0
          have c1 := Ext.cell_some hxw c1
          have hcell := Ext.cell_some hxw hcell
          clear hj
          go_simp
          try go_bits
          first | rfl | (rw [if_pos (by omega), if_pos (by omega)]; go_simp; rfl) | (rw [if_pos (by omega)]; go_simp; rfl) | skip
        · have c0 := Ext.cell_some hxw c0
          have c1 := Ext.cell_some hxw c1
          have hcell := Ext.cell_some hxw hcell
          clear hj
          go_simp
          try go_bits
          first | rfl | (rw [if_pos (by omega), if_pos (by omega)]; go_simp; rfl) | (rw [if_pos (by omega)]; go_simp; rfl) | skip
        · have c0 := Ext.cell_some hxw c0
          have c1 := Ext.cell_some hxw c1
          have hcell := Ext.cell_some hxw hcell
          clear hj
          go_simp
          try go_bits
          first | rfl | (rw [if_pos (by omega), if_pos (by omega)]; go_simp; rfl) | (rw [if_pos (by omega)]; go_simp; rfl) | skip
        · have c0 := Ext.cell_some hxw c0
          have c1 := Ext.cell_some hxw c1
          have hcell := Ext.cell_some hxw hcell
          clear hj
          go_simp
          try go_bits
          first | rfl | (rw [if_pos (by omega), if_pos (by omega)]; go_simp; rfl) | (rw [if_pos (by omega)]; go_simp; rfl) | skip
        · have c0 := Ext.cell_some hxw c0
          have c1 := Ext.cell_some hxw c1
          have hcell := Ext.cell_some hxw hcell
          clear hj
          go_simp
          try go_bits
          first | rfl | (rw [if_pos (by omega), if_pos (by omega)]; go_simp; rfl) | (rw [if_pos (by omega)]; go_simp; rfl) | skip
        · have c0 := Ext.cell_some hxw c0
          have c1 := Ext.cell_some hxw c1
          have hcell := Ext.cell_some hxw hcell
          clear hj
          go_simp
          try go_bits
          first | rfl | (rw [if_pos (by omega), if_pos (by omega)]; go_simp; rfl) | (rw [if_pos (by omega)]; go_simp; rfl) | skip
        · have c0 := Ext.cell_some hxw c0
          have c1 := Ext.cell_some hxw c1
          have hcell := Ext.cell_some hxw hcell
          clear hj
          go_simp
          try go_bits
          first | rfl | (rw [if_pos (by omega), if_pos (by omega)]; go_simp; rfl) | (rw [if_pos (by omega)]; go_simp; rfl) | skip
        · have c0 := Ext.cell_some hxw c0
          have c1 := Ext.cell_some hxw c1
          have hcell := Ext.cell_some hxw hcell
          clear hj
          go_simp
          try go_bits
          first | rfl | (rw [if_pos (by omega), if_pos (by omega)]; go_simp; rfl) | (rw [if_pos (by omega)]; go_simp; rfl) | skip
        · have c0 := Ext.cell_some hxw c0
          have c1 := Ext.cell_some hxw c1
          have hcell := Ext.cell_some hxw hcell
          clear hj
          go_simp
          try go_bits
          first | rfl | (rw [if_pos (by omega), if_pos (by omega)]; go_simp; rfl) | (rw [if_pos (by omega)]; go_simp; rfl) | skip
        · have c0 := Ext.cell_some hxw c0
          have c1 := Ext.cell_some hxw c1
          have hcell := Ext.cell_some hxw hcell
          clear hj
          go_simp
          try go_bits
          first | rfl | (rw [if_pos (by omega), if_pos (by omega)]; go_simp; rfl) | (rw [if_pos (by omega)]; go_simp; rfl) | skip
        · have c0 := Ext.cell_some hxw c0
          have c1 := Ext.cell_some hxw c1
          have hcell := Ext.cell_some hxw hcell
          clear hj
          go_simp
          try go_bits
          first | rfl | (rw [if_pos (by omega), if_pos (by omega)]; go_simp; rfl) | (rw [if_pos (by omega)]; go_simp; rfl) | skip
        · have c0 := Ext.cell_some hxw c0
          have c1 := Ext.cell_some hxw c1
          have hcell := Ext.cell_some hxw hcell
          clear hj
          go_simp
          try go_bits
          first | rfl | (rw [if_pos (by omega), if_pos (by omega)]; go_simp; rfl) | (rw [if_pos (by omega)]; go_simp; rfl) | skip
        · have c0 := Ext.cell_some hxw c0
          have c1 := Ext.cell_some hxw c1
          have hcell := Ext.cell_some hxw hcell
          clear hj
          go_simp
          try go_bits
          first | rfl | (rw [if_pos (by omega), if_pos (by omega)]; go_simp; rfl) | (rw [if_pos (by omega)]; go_simp; rfl) | skip
        · have c0 := Ext.cell_some hxw c0
          have c1 := Ext.cell_some hxw c1
          have hcell := Ext.cell_some hxw hcell
          clear hj
          go_simp
          try go_bits
          first | rfl | (rw [if_pos (by omega), if_pos (by omega)]; go_simp; rfl) | (rw [if_pos (by omega)]; go_simp; rfl) | skip
        · have c0 := Ext.cell_some hxw c0
          have c1 := Ext.cell_some hxw c1
          have hcell := Ext.cell_some hxw hcell
          clear hj
          go_simp
          try go_bits
          first | rfl | (rw [if_pos (by omega), if_pos (by omega)]; go_simp; rfl) | (rw [if_pos (by omega)]; go_simp; rfl) | skip
        · have c0 := Ext.cell_some hxw c0
          have c1 := Ext.cell_some hxw c1
          have hcell := Ext.cell_some hxw hcell
          clear hj
          go_simp
          try go_bits
          first | rfl | (rw [if_pos (by omega), if_pos (by omega)]; go_simp; rfl) | (rw [if_pos (by omega)]; go_simp; rfl) | skip
        · have c0 := Ext.cell_some hxw c0
          have c1 := Ext.cell_some hxw c1
          have hcell := Ext.cell_some hxw hcell
          clear hj
          go_simp
          try go_bits
          first | rfl | (rw [if_pos (by omega), if_pos (by omega)]; go_simp; rfl) | (rw [if_pos (by omega)]; go_simp; rfl) | skip
        · have c0 := Ext.cell_some hxw c0
          have c1 := Ext.cell_some hxw c1
          have hcell := Ext.cell_some hxw hcell
          clear hj
          go_simp
          try go_bits
          first | rfl | (rw [if_pos (by omega), if_pos (by omega)]; go_simp; rfl) | (rw [if_pos (by omega)]; go_simp; rfl) | skip
        · have c0 := Ext.cell_some hxw c0
          have c1 := Ext.cell_some hxw c1
          have hcell := Ext.cell_some hxw hcell
          clear hj
          go_simp
          try go_bits
          first | rfl | (rw [if_pos (by omega), if_pos (by omega)]; go_simp; rfl) | (rw [if_pos (by omega)]; go_simp; rfl) | skip
        · have c0 := Ext.cell_some hxw c0
          have c1 := Ext.cell_some hxw c1
          have hcell := Ext.cell_some hxw hcell
          clear hj
          go_simp
          try go_bits
          first | rfl | (rw [if_pos (by omega), if_pos (by omega)]; go_simp; rfl) | (rw [if_pos (by omega)]; go_simp; rfl) | skip
        · have c0 := Ext.cell_some hxw c0
          have c1 := Ext.cell_some hxw c1
          have hcell := Ext.cell_some hxw hcell
          clear hj
          go_simp
          try go_bits
          exact (HC.out.1 _ ((HM.out.1.ext hxa).ext hxw)).mono fun _ _ ⟨h1, h2⟩ => ⟨h1, h2 ▸ Ext.refl _⟩
        · have c0 := Ext.cell_some hxw c0
          have c1 := Ext.cell_some hxw c1
          have hcell := Ext.cell_some hxw hcell
          clear hj
          go_simp
          try go_bits
          first | rfl | (rw [if_pos (by omega), if_pos (by omega)]; go_simp; rfl) | (rw [if_pos (by omega)]; go_simp; rfl) | skip
      case' hx6_14_p =>
        intro vs w6 hx6 hk
        clear hk
        replace c0 := Ext.cell_some hx6 c0
        replace c1 := Ext.cell_some hx6 c1
        replace hcell := Ext.cell_some hx6 hcell
        replace hxr := Ext.trans hxr hx6
        replace hxa := Ext.trans hxa hx6
        go_simp
        clear hx6
        go_wp2
        go_ret
        exact ⟨ret_bool HV.out.symm, hxa⟩

set_option maxRecDepth 100000 in
set_option maxHeartbeats 4000000 in
theorem spec_l3Goes_ahead (L : Int) (v z : Value) (F st : List (List UInt8)) (u : List UInt8) (w : World) (h : ReadsW w v F) (hz : ReadsW w z st) (hF : ∀ f ∈ F, f.length ≤ 1048576) (hst : ∀ u ∈ st, u.length = 2) (hul : u.length = 2) :
    Calls Tryd.prog 37 #[.agg #[.int .i64 L, v], z, .string (mkS u), .bool false] w fun e w' => e = .returned (.bool (st.any fun x => adjL F x u)) ∧ Ext w w' := by
  obtain ⟨pa, ca, rfl⟩ := h.slice
  obtain ⟨pz, cz, rfl⟩ := hz.slice
  obtain ⟨-, hlz, hcz⟩ := hz.len
  obtain ⟨n, hn⟩ : ∃ n, n = st.length := ⟨_, rfl⟩
  rw [← hn] at hlz hz ⊢
  have hx := Ext.alloc w (.cells #[.int .i64 L, .slice pa F.length ca] 27)
  have bo : Blk (w.alloc (.cells #[.int .i64 L, .slice pa F.length ca] 27)) w.heap.size #[.int .i64 L, .slice pa F.length ca] := by (repeat (first | (refine Blk.mk' ?_; (simp; done)) | apply Blk.old))
  have HM := Lib.hid (And.intro h (And.intro hz (And.intro hn (And.intro hF hst))))
  have hsu : (mkS u).size = u.length := mkS_size u
  have hu1 : 1 < (mkS u).size := by omega
  have hu0 : 0 < (mkS u).size := by omega
  have hu2 : u.length ≤ 2 := by omega
  have i1 : (1 : Int) < (u.length : Int) := by omega
  have i0 : 0 < u.length := by omega
  have i3 : (1 : Int) ≤ (u.length : Int) := by omega
  clear h hz hn hF hst hul
  go_enter Tryd.func37, Tryd.ntmps37
  go_wp2
  go_loopw [9] (fun i wr => ∃ k : Nat, k ≤ n ∧ i = .int .i64 k ∧ (∀ j, j < k → (fun x => adjL F x u) (st.getD j []) = false) ∧ Ext (w.alloc (.cells #[.int .i64 L, .slice pa F.length ca] 27)) wr) (fun i _ => n - (intOf i).toNat)
  case atStart => exact ⟨0, by omega, rfl, fun j hj => by omega, Ext.refl _⟩
  case round =>
    obtain ⟨k, hk, rfl, hp, hxr⟩ := hrel
    have HP := Lib.hid hp
    clear hp
    by_cases hlt : k < n
    rotate_left
    · have hkn : k = n := by omega
      have hv : (st.any fun v => (fun x => adjL F x u) v) = false := by
        rw [List.any_eq_false]
        intro f hf
        obtain ⟨j, hj, rfl⟩ := List.mem_iff_getElem.1 hf
        have := HP.out j (by rw [hkn, HM.out.2.2.1]; exact hj)
        rw [List.getD_eq_getElem?_getD, List.getElem?_eq_getElem hj, Option.getD_some] at this
        rw [this]; simp
      have HV := Lib.hid hv
      have E := hx.trans hxr
      clear hv
      go_wp2
      go_ret
      exact ⟨ret_bool HV.out.symm, E⟩
    have hkm : k < st.length := by rw [← HM.out.2.2.1]; exact hlt
    have hxa := hx.trans hxr
    obtain ⟨b, o, rfl, hcell⟩ := (HM.out.2.1.ext hxa).at k hkm
    have hxl : (st.getD k []).length = 2 := HM.out.2.2.2.2 _ (by
      rw [List.getD_eq_getElem?_getD, List.getElem?_eq_getElem hkm]
      exact List.getElem_mem hkm)
    have hmem : st.getD k [] ∈ st := by
      rw [List.getD_eq_getElem?_getD, List.getElem?_eq_getElem hkm]
      exact List.getElem_mem hkm
    obtain ⟨x, hx'⟩ : ∃ x, x = st.getD k [] := ⟨_, rfl⟩
    rw [← hx'] at hcell hxl hmem
    have HX := Lib.hid (And.intro hmem hx')
    have hsx : (mkS x).size = x.length := mkS_size x
    have hx1' : 1 < (mkS x).size := by omega
    have hx0' : 0 < (mkS x).size := by omega
    have hx2 : x.length ≤ 2 := by omega
    have j1 : (1 : Int) < (x.length : Int) := by omega
    have j0 : 0 < x.length := by omega
    have j3 : (1 : Int) ≤ (x.length : Int) := by omega
    clear hxl hmem hx' hkm
    have c0 := (bo.ext hxr).cell 0 (.int .i64 L) rfl
    have c1 := (bo.ext hxr).cell 1 (.slice pa F.length ca) rfl
    obtain ⟨c, hc⟩ : ∃ c, c = (x.getD 1 0 == u.getD 0 0) := ⟨_, rfl⟩
    have hcn : ((((mkS x)[1]'hx1').toNat : Int) == (((mkS u)[0]'hu0).toNat : Int)) = c := by
      rw [hc, mkS_get, mkS_get, let_eq]
    obtain ⟨d, hd⟩ : ∃ d, d = u.drop 1 := ⟨_, rfl⟩
    have hsl1 := mkS_tail u 1
    rw [hsu, ← hd] at hsl1
    have hcat := mkS_append x d
    have hfit : ¬ 9223372036854775807 < x.length + (mkS d).size := by rw [mkS_size, hd, List.length_drop]; omega
    obtain ⟨y, hy⟩ : ∃ y, y = x ++ d := ⟨_, rfl⟩
    rw [← hy] at hcat
    have hyl : y.length ≤ 1048576 := by rw [hy, List.length_append, hd, List.length_drop]; omega
    obtain ⟨av, hav⟩ : ∃ av, av = avoidL F y := ⟨_, rfl⟩
    have hca := fun w h => spec_l3Avoids_any (.slice pa F.length ca) F y w h HM.out.2.2.2.1 hyl
    rw [← hav] at hca
    have hadj : adjL F x u = (c && av) := by
      unfold adjL
      rw [← hc, hav, hy, hd]
    have HC := Lib.hid (And.intro hca hadj)
    clear hc hd hy hyl hav hca hadj
    cases c
    · go_wp2
      refine wp_region_inv (by kernel_rfl) (.known ?hx6_15_v0 :: .known ?hx6_15_v1 :: .known ?hx6_15_v2 :: .known ?hx6_15_v3 :: .known ?hx6_15_v4 :: .known ?hx6_15_v5 :: .known ?hx6_15_v6 :: .known ?hx6_15_v7 :: .known ?hx6_15_v8 :: .known ?hx6_15_v9 :: .known ?hx6_15_v10 :: .known ?hx6_15_v11 :: .known ?hx6_15_v12 :: .known ?hx6_15_v13 :: .known ?hx6_15_v14 :: .known ?hx6_15_v15 :: .known ?hx6_15_v16 :: .known ?hx6_15_v17 :: .known ?hx6_15_v18 :: .known ?hx6_15_v19 :: .known ?hx6_15_v20 :: .known ?hx6_15_v21 :: .known ?hx6_15_v22 :: []) rfl (by kernel_rfl) ?hx6_15_s ?hx6_15_p
      case hx6_15_s =>
        intro vs
        refine ⟨fun w' hxw hj => ?_, fun w' hxw hj => ?_, fun w' hxw hj => ?_, fun w' hxw hj => ?_, fun w' hxw hj => ?_, fun w' hxw hj => ?_, fun w' hxw hj => ?_, fun w' hxw hj => ?_, fun w' hxw hj => ?_, fun w' hxw hj => ?_, fun w' hxw hj => ?_, fun w' hxw hj => ?_, fun w' hxw hj => ?_, fun w' hxw hj => ?_, fun w' hxw hj => ?_, fun w' hxw hj => ?_, fun w' hxw hj => ?_, fun w' hxw hj => ?_, fun w' hxw hj => ?_, fun w' hxw hj => ?_, fun w' hxw hj => ?_, fun w' hxw hj => ?_, fun w' hxw hj => ?_, trivial⟩
        · have c0 := Ext.cell_some hxw c0
          have c1 := Ext.cell_some hxw c1
          have hcell := Ext.cell_some hxw hcell
          clear hj
          go_simp
          try go_bits
          first | rfl | (rw [if_pos (by omega), if_pos (by omega)]; go_simp; rfl) | (rw [if_pos (by omega)]; go_simp; rfl) | skip
        · have c0 := Ext.cell_some hxw c0
          have c1 := Ext.cell_some hxw c1
          have hcell := Ext.cell_some hxw hcell
          clear hj
          go_simp
          try go_bits
          first | rfl | (rw [if_pos (by omega), if_pos (by omega)]; go_simp; rfl) | (rw [if_pos (by omega)]; go_simp; rfl) | skip
        · have c0 := Ext.cell_some hxw c0
          have c1 := Ext.cell_some hxw c1
          have hcell := Ext.cell_some hxw hcell
          clear hj
          go_simp
          try go_bits
          first | rfl | (rw [if_pos (by omega), if_pos (by omega)]; go_simp; rfl) | (rw [if_pos (by omega)]; go_simp; rfl) | skip
        · have c0 := Ext.cell_some hxw c0
          have c1 := Ext.cell_some hxw c1
          have hcell := Ext.cell_some hxw hcell
          clear hj
          go_simp
          try go_bits
          first | rfl | (rw [if_pos (by omega), if_pos (by omega)]; go_simp; rfl) | (rw [if_pos (by omega)]; go_simp; rfl) | skip
        · have c0 := Ext.cell_some hxw c0
          have c1 := Ext.cell_some hxw c1
          have hcell := Ext.cell_some hxw hcell
          clear hj
          go_simp
          try go_bits
          first | rfl | (rw [if_pos (by omega), if_pos (by omega)]; go_simp; rfl) | (rw [if_pos (by omega)]; go_simp; rfl) | skip
        · have c0 := Ext.cell_some hxw c0
          have c1 := Ext.cell_some hxw c1
          have hcell := Ext.cell_some hxw hcell
          clear hj
          go_simp
          try go_bits
          first | rfl | (rw [if_pos (by omega), if_pos (by omega)]; go_simp; rfl) | (rw [if_pos (by omega)]; go_simp; rfl) | skip
        · have c0 := Ext.cell_some hxw c0
          have c1 := Ext.cell_some hxw c1
          have hcell := Ext.cell_some hxw hcell
          clear hj
          go_simp
          try go_bits
          first | rfl | (rw [if_pos (by omega), if_pos (by omega)]; go_simp; rfl) | (rw [if_pos (by omega)]; go_simp; rfl) | skip
        · have c0 := Ext.cell_some hxw c0
          have c1 := Ext.cell_some hxw c1
          have hcell := Ext.cell_some hxw hcell
          clear hj
          go_simp
          try go_bits
          first | rfl | (rw [if_pos (by omega), if_pos (by omega)]; go_simp; rfl) | (rw [if_pos (by omega)]; go_simp; rfl) | skip
        · have c0 := Ext.cell_some hxw c0
          have c1 := Ext.cell_some hxw c1
          have hcell := Ext.cell_some hxw hcell
          clear hj
          go_simp
          try go_bits
          first | rfl | (rw [if_pos (by omega), if_pos (by omega)]; go_simp; rfl) | (rw [if_pos (by omega)]; go_simp; rfl) | skip
        · have c0 := Ext.cell_some hxw c0
          have c1 := Ext.cell_some hxw c1
          have hcell := Ext.cell_some hxw hcell
          clear hj
          go_simp
          try go_bits
          first | rfl | (rw [if_pos (by omega), if_pos (by omega)]; go_simp; rfl) | (rw [if_pos (by omega)]; go_simp; rfl) | skip
        · have c0 := Ext.cell_some hxw c0
          have c1 := Ext.cell_some hxw c1
          have hcell := Ext.cell_some hxw hcell
          clear hj
          go_simp
          try go_bits
          first | rfl | (rw [if_pos (by omega), if_pos (by omega)]; go_simp; rfl) | (rw [if_pos (by omega)]; go_simp; rfl) | skip
        · have c0 := Ext.cell_some hxw c0
          have c1 := Ext.cell_some hxw c1
          have hcell := Ext.cell_some hxw hcell
          clear hj
          go_simp
          try go_bits
          first | rfl | (rw [if_pos (by omega), if_pos (by omega)]; go_simp; rfl) | (rw [if_pos (by omega)]; go_simp; rfl) | skip
        · have c0 := Ext.cell_some hxw c0
          have c1 := Ext.cell_some hxw c1
          have hcell := Ext.cell_some hxw hcell
          clear hj
          go_simp
          try go_bits
          first | rfl | (rw [if_pos (by omega), if_pos (by omega)]; go_simp; rfl) | (rw [if_pos (by omega)]; go_simp; rfl) | skip
        · have c0 := Ext.cell_some hxw c0
          have c1 := Ext.cell_some hxw c1
          have hcell := Ext.cell_some hxw hcell
          clear hj
          go_simp
          try go_bits
          first | rfl | (rw [if_pos (by omega), if_pos (by omega)]; go_simp; rfl) | (rw [if_pos (by omega)]; go_simp; rfl) | skip
        · have c0 := Ext.cell_some hxw c0
          have c1 := Ext.cell_some hxw c1
          have hcell := Ext.cell_some hxw hcell
          clear hj
          go_simp
          try go_bits
          first | rfl | (rw [if_pos (by omega), if_pos (by omega)]; go_simp; rfl) | (rw [if_pos (by omega)]; go_simp; rfl) | skip
        · have c0 := Ext.cell_some hxw c0
          have c1 := Ext.cell_some hxw c1
          have hcell := Ext.cell_some hxw hcell
          clear hj
          go_simp
          try go_bits
          first | rfl | (rw [if_pos (by omega), if_pos (by omega)]; go_simp; rfl) | (rw [if_pos (by omega)]; go_simp; rfl) | skip
        · have c0 := Ext.cell_some hxw c0
          have c1 := Ext.cell_some hxw c1
          have hcell := Ext.cell_some hxw hcell
          clear hj
          go_simp
          try go_bits
          first | rfl | (rw [if_pos (by omega), if_pos (by omega)]; go_simp; rfl) | (rw [if_pos (by omega)]; go_simp; rfl) | skip
        · have c0 := Ext.cell_some hxw c0
          have c1 := Ext.cell_some hxw c1
          have hcell := Ext.cell_some hxw hcell
          clear hj
          go_simp
          try go_bits
          first | rfl | (rw [if_pos (by omega), if_pos (by omega)]; go_simp; rfl) | (rw [if_pos (by omega)]; go_simp; rfl) | skip
        · have c0 := Ext.cell_some hxw c0
          have c1 := Ext.cell_some hxw c1
          have hcell := Ext.cell_some hxw hcell
          clear hj
          go_simp
          try go_bits
          first | rfl | (rw [if_pos (by omega), if_pos (by omega)]; go_simp; rfl) | (rw [if_pos (by omega)]; go_simp; rfl) | skip
        · have c0 := Ext.cell_some hxw c0
          have c1 := Ext.cell_some hxw c1
          have hcell := Ext.cell_some hxw hcell
          clear hj
          go_simp
          try go_bits
          first | rfl | (rw [if_pos (by omega), if_pos (by omega)]; go_simp; rfl) | (rw [if_pos (by omega)]; go_simp; rfl) | skip
        · have c0 := Ext.cell_some hxw c0
          have c1 := Ext.cell_some hxw c1
          have hcell := Ext.cell_some hxw hcell
          clear hj
          go_simp
          try go_bits
          first | rfl | (rw [if_pos (by omega), if_pos (by omega)]; go_simp; rfl) | (rw [if_pos (by omega)]; go_simp; rfl) | skip
        · have c0 := Ext.cell_some hxw c0
          have c1 := Ext.cell_some hxw c1
          have hcell := Ext.cell_some hxw hcell
          clear hj
          go_simp
          try go_bits
          first | rfl | (rw [if_pos (by omega), if_pos (by omega)]; go_simp; rfl) | (rw [if_pos (by omega)]; go_simp; rfl) | skip
        · have c0 := Ext.cell_some hxw c0
          have c1 := Ext.cell_some hxw c1
          have hcell := Ext.cell_some hxw hcell
          clear hj
          go_simp
          try go_bits
          first | rfl | (rw [if_pos (by omega), if_pos (by omega)]; go_simp; rfl) | (rw [if_pos (by omega)]; go_simp; rfl) | skip
      case' hx6_15_p =>
        intro vs w6 hx6 hk
        clear hk
        replace c0 := Ext.cell_some hx6 c0
        replace c1 := Ext.cell_some hx6 c1
        replace hcell := Ext.cell_some hx6 hcell
        replace hxr := Ext.trans hxr hx6
        replace hxa := Ext.trans hxa hx6
        go_simp
        clear hx6
        go_wp2
        refine wp_region_inv (by kernel_rfl) (.known ?hx7_16_v0 :: .known ?hx7_16_v1 :: .known ?hx7_16_v2 :: .known ?hx7_16_v3 :: .known ?hx7_16_v4 :: .known ?hx7_16_v5 :: .known ?hx7_16_v6 :: .known ?hx7_16_v7 :: .known ?hx7_16_v8 :: .known ?hx7_16_v9 :: .known ?hx7_16_v10 :: .known ?hx7_16_v11 :: .known ?hx7_16_v12 :: .known ?hx7_16_v13 :: .known ?hx7_16_v14 :: .known ?hx7_16_v15 :: .known ?hx7_16_v16 :: .known ?hx7_16_v17 :: .known ?hx7_16_v18 :: .known ?hx7_16_v19 :: .known ?hx7_16_v20 :: .known ?hx7_16_v21 :: .known ?hx7_16_v22 :: .known ?hx7_16_v23 :: []) rfl (by kernel_rfl) ?hx7_16_s ?hx7_16_p
        case hx7_16_s =>
          intro vs
          refine ⟨fun w' hxw hj => ?_, fun w' hxw hj => ?_, fun w' hxw hj => ?_, fun w' hxw hj => ?_, fun w' hxw hj => ?_, fun w' hxw hj => ?_, fun w' hxw hj => ?_, fun w' hxw hj => ?_, fun w' hxw hj => ?_, fun w' hxw hj => ?_, fun w' hxw hj => ?_, fun w' hxw hj => ?_, fun w' hxw hj => ?_, fun w' hxw hj => ?_, fun w' hxw hj => ?_, fun w' hxw hj => ?_, fun w' hxw hj => ?_, fun w' hxw hj => ?_, fun w' hxw hj => ?_, fun w' hxw hj => ?_, fun w' hxw hj => ?_, fun w' hxw hj => ?_, fun w' hxw hj => ?_, fun w' hxw hj => ?_, trivial⟩
          · have c0 := Ext.cell_some hxw c0
            have c1 := Ext.cell_some hxw c1
            have hcell := Ext.cell_some hxw hcell
            clear hj
            go_simp
            try go_bits
            first | rfl | (rw [if_pos (by omega), if_pos (by omega)]; go_simp; rfl) | (rw [if_pos (by omega)]; go_simp; rfl) | skip
          · have c0 := Ext.cell_some hxw c0
            have c1 := Ext.cell_some hxw c1
            have hcell := Ext.cell_some hxw hcell
            clear hj
            go_simp
            try go_bits
            first | rfl | (rw [if_pos (by omega), if_pos (by omega)]; go_simp; rfl) | (rw [if_pos (by omega)]; go_simp; rfl) | skip
          · have c0 := Ext.cell_some hxw c0
            have c1 := Ext.cell_some hxw c1
            have hcell := Ext.cell_some hxw hcell
            clear hj
            go_simp
            try go_bits
            first | rfl | (rw [if_pos (by omega), if_pos (by omega)]; go_simp; rfl) | (rw [if_pos (by omega)]; go_simp; rfl) | skip
          · have c0 := Ext.cell_some hxw c0
            have c1 := Ext.cell_some hxw c1
            have hcell := Ext.cell_some hxw hcell
            clear hj
            go_simp
            try go_bits
            first | rfl | (rw [if_pos (by omega), if_pos (by omega)]; go_simp; rfl) | (rw [if_pos (by omega)]; go_simp; rfl) | skip
          · have c0 := Ext.cell_some hxw c0
            have c1 := Ext.cell_some hxw c1
            have hcell := Ext.cell_some hxw hcell
            clear hj
            go_simp
            try go_bits
            first | rfl | (rw [if_pos (by omega), if_pos (by omega)]; go_simp; rfl) | (rw [if_pos (by omega)]; go_simp; rfl) | skip
          · have c0 := Ext.cell_some hxw c0
            have c1 := Ext.cell_some hxw c1
            have hcell := Ext.cell_some hxw hcell
            clear hj
            go_simp
            try go_bits
            first | rfl | (rw [if_pos (by omega), if_pos (by omega)]; go_simp; rfl) | (rw [if_pos (by omega)]; go_simp; rfl) | skip
          · have c0 := Ext.cell_some hxw c0
            have c1 := Ext.cell_some hxw c1
            have hcell := Ext.cell_some hxw hcell
            clear hj
            go_simp
            try go_bits
            first | rfl | (rw [if_pos (by omega), if_pos (by omega)]; go_simp; rfl) | (rw [if_pos (by omega)]; go_simp; rfl) | skip
          · have c0 := Ext.cell_some hxw c0
            have c1 := Ext.cell_some hxw c1
            have hcell := Ext.cell_some hxw hcell
            clear hj
            go_simp
            try go_bits
            first | rfl | (rw [if_pos (by omega), if_pos (by omega)]; go_simp; rfl) | (rw [if_pos (by omega)]; go_simp; rfl) | skip
          · have c0 := Ext.cell_some hxw c0
            have c1 := Ext.cell_some hxw c1
            have hcell := Ext.cell_some hxw hcell
            clear hj
            go_simp
            try go_bits
            first | rfl | (rw [if_pos (by omega), if_pos (by omega)]; go_simp; rfl) | (rw [if_pos (by omega)]; go_simp; rfl) | skip
          · have c0 := Ext.cell_some hxw c0
            have c1 := Ext.cell_some hxw c1
            have hcell := Ext.cell_some hxw hcell
            clear hj
            go_simp
            try go_bits
            first | rfl | (rw [if_pos (by omega), if_pos (by omega)]; go_simp; rfl) | (rw [if_pos (by omega)]; go_simp; rfl) | skip
          · have c0 := Ext.cell_some hxw c0
            have c1 := Ext.cell_some hxw c1
            have hcell := Ext.cell_some hxw hcell
            clear hj
            go_simp
            try go_bits
            first | rfl | (rw [if_pos (by omega), if_pos (by omega)]; go_simp; rfl) | (rw [if_pos (by omega)]; go_simp; rfl) | skip
          · have c0 := Ext.cell_some hxw c0
            have c1 := Ext.cell_some hxw c1
            have hcell := Ext.cell_some hxw hcell
            clear hj
            go_simp
            try go_bits
            first | rfl | (rw [if_pos (by omega), if_pos (by omega)]; go_simp; rfl) | (rw [if_pos (by omega)]; go_simp; rfl) | skip
          · have c0 := Ext.cell_some hxw c0
            have c1 := Ext.cell_some hxw c1
            have hcell := Ext.cell_some hxw hcell
            clear hj
            go_simp
            try go_bits
            first | rfl | (rw [if_pos (by omega), if_pos (by omega)]; go_simp; rfl) | (rw [if_pos (by omega)]; go_simp; rfl) | skip
          · have c0 := Ext.cell_some hxw c0
            have c1 := Ext.cell_some hxw c1
            have hcell := Ext.cell_some hxw hcell
            clear hj
            go_simp
            try go_bits
            first | rfl | (rw [if_pos (by omega), if_pos (by omega)]; go_simp; rfl) | (rw [if_pos (by omega)]; go_simp; rfl) | skip
          · have c0 := Ext.cell_some hxw c0
            have c1 := Ext.cell_some hxw c1
            have hcell := Ext.cell_some hxw hcell
            clear hj
            go_simp
            try go_bits
            first | rfl | (rw [if_pos (by omega), if_pos (by omega)]; go_simp; rfl) | (rw [if_pos (by omega)]; go_simp; rfl) | skip
          · have c0 := Ext.cell_some hxw c0
            have c1 := Ext.cell_some hxw c1
            have hcell := Ext.cell_some hxw hcell
            clear hj
            go_simp
            try go_bits
            first | rfl | (rw [if_pos (by omega), if_pos (by omega)]; go_simp; rfl) | (rw [if_pos (by omega)]; go_simp; rfl) | skip
          · have c0 := Ext.cell_some hxw c0
            have c1 := Ext.cell_some hxw c1
            have hcell := Ext.cell_some hxw hcell
            clear hj
            go_simp
            try go_bits
            first | rfl | (rw [if_pos (by omega), if_pos (by omega)]; go_simp; rfl) | (rw [if_pos (by omega)]; go_simp; rfl) | skip
          · have c0 := Ext.cell_some hxw c0
            have c1 := Ext.cell_some hxw c1
            have hcell := Ext.cell_some hxw hcell
            clear hj
            go_simp
            try go_bits
            first | rfl | (rw [if_pos (by omega), if_pos (by omega)]; go_simp; rfl) | (rw [if_pos (by omega)]; go_simp; rfl) | skip
          · have c0 := Ext.cell_some hxw c0
            have c1 := Ext.cell_some hxw c1
            have hcell := Ext.cell_some hxw hcell
            clear hj
            go_simp
            try go_bits
            first | rfl | (rw [if_pos (by omega), if_pos (by omega)]; go_simp; rfl) | (rw [if_pos (by omega)]; go_simp; rfl) | skip
          · have c0 := Ext.cell_some hxw c0
            have c1 := Ext.cell_some hxw c1
            have hcell := Ext.cell_some hxw hcell
            clear hj
            go_simp
            try go_bits
            first | rfl | (rw [if_pos (by omega), if_pos (by omega)]; go_simp; rfl) | (rw [if_pos (by omega)]; go_simp; rfl) | skip
          · have c0 := Ext.cell_some hxw c0
            have c1 := Ext.cell_some hxw c1
            have hcell := Ext.cell_some hxw hcell
            clear hj
            go_simp
            try go_bits
            first | rfl | (rw [if_pos (by omega), if_pos (by omega)]; go_simp; rfl) | (rw [if_pos (by omega)]; go_simp; rfl) | skip
          · have c0 := Ext.cell_some hxw c0
            have c1 := Ext.cell_some hxw c1
            have hcell := Ext.cell_some hxw hcell
            clear hj
            go_simp
            try go_bits
            first | rfl | (rw [if_pos (by omega), if_pos (by omega)]; go_simp; rfl) | (rw [if_pos (by omega)]; go_simp; rfl) | skip
          · have c0 := Ext.cell_some hxw c0
            have c1 := Ext.cell_some hxw c1
            have hcell := Ext.cell_some hxw hcell
            clear hj
            go_simp
            try go_bits
            first | rfl | (rw [if_pos (by omega), if_pos (by omega)]; go_simp; rfl) | (rw [if_pos (by omega)]; go_simp; rfl) | skip
          · have c0 := Ext.cell_some hxw c0
            have c1 := Ext.cell_some hxw c1
            have hcell := Ext.cell_some hxw hcell
            clear hj
            go_simp
            try go_bits
            first | rfl | (rw [if_pos (by omega), if_pos (by omega)]; go_simp; rfl) | (rw [if_pos (by omega)]; go_simp; rfl) | skip
        case' hx7_16_p =>
          intro vs w7 hx7 hk
          clear hk
          replace c0 := Ext.cell_some hx7 c0
          replace c1 := Ext.cell_some hx7 c1
          replace hcell := Ext.cell_some hx7 hcell
          replace hxr := Ext.trans hxr hx7
          replace hxa := Ext.trans hxa hx7
          go_simp
          clear hx7 c0 c1
          go_wp2
          go_roundw
          case rel => exact ⟨k + 1, by omega, by go_num, fun j hj => by
            by_cases e : j = k
            · subst e; show adjL F (st.getD j []) u = false; rw [← HX.out.2, HC.out.2]; rfl
            · exact HP.out j (by omega), hxr⟩
          case measure => simp [intOf]; omega
    cases av
    · go_wp2
      refine wp_region_inv (by kernel_rfl) (.known ?hx6_17_v0 :: .known ?hx6_17_v1 :: .known ?hx6_17_v2 :: .known ?hx6_17_v3 :: .known ?hx6_17_v4 :: .known ?hx6_17_v5 :: .known ?hx6_17_v6 :: .known ?hx6_17_v7 :: .known ?hx6_17_v8 :: .known ?hx6_17_v9 :: .known ?hx6_17_v10 :: .known ?hx6_17_v11 :: .known ?hx6_17_v12 :: .known ?hx6_17_v13 :: .known ?hx6_17_v14 :: .known ?hx6_17_v15 :: .known ?hx6_17_v16 :: .known ?hx6_17_v17 :: .known ?hx6_17_v18 :: .known ?hx6_17_v19 :: .known ?hx6_17_v20 :: .known ?hx6_17_v21 :: .known ?hx6_17_v22 :: []) rfl (by kernel_rfl) ?hx6_17_s ?hx6_17_p
      case hx6_17_s =>
        intro vs
        refine ⟨fun w' hxw hj => ?_, fun w' hxw hj => ?_, fun w' hxw hj => ?_, fun w' hxw hj => ?_, fun w' hxw hj => ?_, fun w' hxw hj => ?_, fun w' hxw hj => ?_, fun w' hxw hj => ?_, fun w' hxw hj => ?_, fun w' hxw hj => ?_, fun w' hxw hj => ?_, fun w' hxw hj => ?_, fun w' hxw hj => ?_, fun w' hxw hj => ?_, fun w' hxw hj => ?_, fun w' hxw hj => ?_, fun w' hxw hj => ?_, fun w' hxw hj => ?_, fun w' hxw hj => ?_, fun w' hxw hj => ?_, fun w' hxw hj => ?_, fun w' hxw hj => ?_, fun w' hxw hj => ?_, trivial⟩
        · have c0 := Ext.cell_some hxw c0
          have c1 := Ext.cell_some hxw c1
          have hcell := Ext.cell_some hxw hcell
          clear hj
          go_simp
          try go_bits
          first | rfl | (rw [if_pos (by omega), if_pos (by omega)]; go_simp; rfl) | (rw [if_pos (by omega)]; go_simp; rfl) | skip
        · have c0 := Ext.cell_some hxw c0
          have c1 := Ext.cell_some hxw c1
          have hcell := Ext.cell_some hxw hcell
          clear hj
          go_simp
          try go_bits
          first | rfl | (rw [if_pos (by omega), if_pos (by omega)]; go_simp; rfl) | (rw [if_pos (by omega)]; go_simp; rfl) | skip
        · have c0 := Ext.cell_some hxw c0
          have c1 := Ext.cell_some hxw c1
          have hcell := Ext.cell_some hxw hcell
          clear hj
          go_simp
          try go_bits
          first | rfl | (rw [if_pos (by omega), if_pos (by omega)]; go_simp; rfl) | (rw [if_pos (by omega)]; go_simp; rfl) | skip
        · have c0 := Ext.cell_some hxw c0
          have c1 := Ext.cell_some hxw c1
          have hcell := Ext.cell_some hxw hcell
          clear hj
          go_simp
          try go_bits
          first | rfl | (rw [if_pos (by omega), if_pos (by omega)]; go_simp; rfl) | (rw [if_pos (by omega)]; go_simp; rfl) | skip
        · have c0 := Ext.cell_some hxw c0
          have c1 := Ext.cell_some hxw c1
          have hcell := Ext.cell_some hxw hcell
          clear hj
          go_simp
          try go_bits
          first | rfl | (rw [if_pos (by omega), if_pos (by omega)]; go_simp; rfl) | (rw [if_pos (by omega)]; go_simp; rfl) | skip
        · have c0 := Ext.cell_some hxw c0
          have c1 := Ext.cell_some hxw c1
          have hcell := Ext.cell_some hxw hcell
          clear hj
          go_simp
          try go_bits
          first | rfl | (rw [if_pos (by omega), if_pos (by omega)]; go_simp; rfl) | (rw [if_pos (by omega)]; go_simp; rfl) | skip
        · have c0 := Ext.cell_some hxw c0
          have c1 := Ext.cell_some hxw c1
          have hcell := Ext.cell_some hxw hcell
          clear hj
          go_simp
          try go_bits
          first | rfl | (rw [if_pos (by omega), if_pos (by omega)]; go_simp; rfl) | (rw [if_pos (by omega)]; go_simp; rfl) | skip
        · have c0 := Ext.cell_some hxw c0
          have c1 := Ext.cell_some hxw c1
          have hcell := Ext.cell_some hxw hcell
          clear hj
          go_simp
          try go_bits
          first | rfl | (rw [if_pos (by omega), if_pos (by omega)]; go_simp; rfl) | (rw [if_pos (by omega)]; go_simp; rfl) | skip
        · have c0 := Ext.cell_some hxw c0
          have c1 := Ext.cell_some hxw c1
          have hcell := Ext.cell_some hxw hcell
          clear hj
          go_simp
          try go_bits
          first | rfl | (rw [if_pos (by omega), if_pos (by omega)]; go_simp; rfl) | (rw [if_pos (by omega)]; go_simp; rfl) | skip
        · have c0 := Ext.cell_some hxw c0
          have c1 := Ext.cell_some hxw c1
          have hcell := Ext.cell_some hxw hcell
          clear hj
          go_simp
          try go_bits
          first | rfl | (rw [if_pos (by omega), if_pos (by omega)]; go_simp; rfl) | (rw [if_pos (by omega)]; go_simp; rfl) | skip
        · have c0 := Ext.cell_some hxw c0
          have c1 := Ext.cell_some hxw c1
          have hcell := Ext.cell_some hxw hcell
          clear hj
          go_simp
          try go_bits
          first | rfl | (rw [if_pos (by omega), if_pos (by omega)]; go_simp; rfl) | (rw [if_pos (by omega)]; go_simp; rfl) | skip
        · have c0 := Ext.cell_some hxw c0
          have c1 := Ext.cell_some hxw c1
          have hcell := Ext.cell_some hxw hcell
          clear hj
          go_simp
          try go_bits
          first | rfl | (rw [if_pos (by omega), if_pos (by omega)]; go_simp; rfl) | (rw [if_pos (by omega)]; go_simp; rfl) | skip
        · have c0 := Ext.cell_some hxw c0
          have c1 := Ext.cell_some hxw c1
          have hcell := Ext.cell_some hxw hcell
          clear hj
          go_simp
          try go_bits
          first | rfl | (rw [if_pos (by omega), if_pos (by omega)]; go_simp; rfl) | (rw [if_pos (by omega)]; go_simp; rfl) | skip
        · have c0 := Ext.cell_some hxw c0
          have c1 := Ext.cell_some hxw c1
          have hcell := Ext.cell_some hxw hcell
          clear hj
          go_simp
          try go_bits
          first | rfl | (rw [if_pos (by omega), if_pos (by omega)]; go_simp; rfl) | (rw [if_pos (by omega)]; go_simp; rfl) | skip
        · have c0 := Ext.cell_some hxw c0
          have c1 := Ext.cell_some hxw c1
          have hcell := Ext.cell_some hxw hcell
          clear hj
          go_simp
          try go_bits
          first | rfl | (rw [if_pos (by omega), if_pos (by omega)]; go_simp; rfl) | (rw [if_pos (by omega)]; go_simp; rfl) | skip
        · have c0 := Ext.cell_some hxw c0
          have c1 := Ext.cell_some hxw c1
          have hcell := Ext.cell_some hxw hcell
          clear hj
          go_simp
          try go_bits
          first | rfl | (rw [if_pos (by omega), if_pos (by omega)]; go_simp; rfl) | (rw [if_pos (by omega)]; go_simp; rfl) | skip
        · have c0 := Ext.cell_some hxw c0
          have c1 := Ext.cell_some hxw c1
          have hcell := Ext.cell_some hxw hcell
          clear hj
          go_simp
          try go_bits
          first | rfl | (rw [if_pos (by omega), if_pos (by omega)]; go_simp; rfl) | (rw [if_pos (by omega)]; go_simp; rfl) | skip
        · have c0 := Ext.cell_some hxw c0
          have c1 := Ext.cell_some hxw c1
          have hcell := Ext.cell_some hxw hcell
          clear hj
          go_simp
          try go_bits
          first | rfl | (rw [if_pos (by omega), if_pos (by omega)]; go_simp; rfl) | (rw [if_pos (by omega)]; go_simp; rfl) | skip
        · have c0 := Ext.cell_some hxw c0
          have c1 := Ext.cell_some hxw c1
          have hcell := Ext.cell_some hxw hcell
          clear hj
          go_simp
          try go_bits
          first | rfl | (rw [if_pos (by omega), if_pos (by omega)]; go_simp; rfl) | (rw [if_pos (by omega)]; go_simp; rfl) | skip
        · have c0 := Ext.cell_some hxw c0
          have c1 := Ext.cell_some hxw c1
          have hcell := Ext.cell_some hxw hcell
          clear hj
          go_simp
          try go_bits
          first | rfl | (rw [if_pos (by omega), if_pos (by omega)]; go_simp; rfl) | (rw [if_pos (by omega)]; go_simp; rfl) | skip
        · have c0 := Ext.cell_some hxw c0
          have c1 := Ext.cell_some hxw c1
          have hcell := Ext.cell_some hxw hcell
          clear hj
          go_simp
          try go_bits
          first | rfl | (rw [if_pos (by omega), if_pos (by omega)]; go_simp; rfl) | (rw [if_pos (by omega)]; go_simp; rfl) | skip
        · have c0 := Ext.cell_some hxw c0
          have c1 := Ext.cell_some hxw c1
          have hcell := Ext.cell_some hxw hcell
          clear hj
          go_simp
          try go_bits
          first | rfl | (rw [if_pos (by omega), if_pos (by omega)]; go_simp; rfl) | (rw [if_pos (by omega)]; go_simp; rfl) | skip
        · have c0 := Ext.cell_some hxw c0
          have c1 := Ext.cell_some hxw c1
          have hcell := Ext.cell_some hxw hcell
          clear hj
          go_simp
          try go_bits
          first | rfl | (rw [if_pos (by omega), if_pos (by omega)]; go_simp; rfl) | (rw [if_pos (by omega)]; go_simp; rfl) | skip
      case' hx6_17_p =>
        intro vs w6 hx6 hk
        clear hk
        replace c0 := Ext.cell_some hx6 c0
        replace c1 := Ext.cell_some hx6 c1
        replace hcell := Ext.cell_some hx6 hcell
        replace hxr := Ext.trans hxr hx6
        replace hxa := Ext.trans hxa hx6
        go_simp
        clear hx6
        go_wp2
        refine wp_region_inv (by kernel_rfl) (.known ?hx7_18_v0 :: .known ?hx7_18_v1 :: .known ?hx7_18_v2 :: .known ?hx7_18_v3 :: .known ?hx7_18_v4 :: .known ?hx7_18_v5 :: .known ?hx7_18_v6 :: .known ?hx7_18_v7 :: .known ?hx7_18_v8 :: .known ?hx7_18_v9 :: .known ?hx7_18_v10 :: .known ?hx7_18_v11 :: .known ?hx7_18_v12 :: .known ?hx7_18_v13 :: .known ?hx7_18_v14 :: .known ?hx7_18_v15 :: .known ?hx7_18_v16 :: .known ?hx7_18_v17 :: .known ?hx7_18_v18 :: .known ?hx7_18_v19 :: .known ?hx7_18_v20 :: .known ?hx7_18_v21 :: .known (.bool false) :: .known ?hx7_18_v23 :: []) rfl (by kernel_rfl) ?hx7_18_s ?hx7_18_p
        case hx7_18_s =>
          intro vs
          refine ⟨fun w' hxw hj => ?_, fun w' hxw hj => ?_, fun w' hxw hj => ?_, fun w' hxw hj => ?_, fun w' hxw hj => ?_, fun w' hxw hj => ?_, fun w' hxw hj => ?_, fun w' hxw hj => ?_, fun w' hxw hj => ?_, fun w' hxw hj => ?_, fun w' hxw hj => ?_, fun w' hxw hj => ?_, fun w' hxw hj => ?_, fun w' hxw hj => ?_, fun w' hxw hj => ?_, fun w' hxw hj => ?_, fun w' hxw hj => ?_, fun w' hxw hj => ?_, fun w' hxw hj => ?_, fun w' hxw hj => ?_, fun w' hxw hj => ?_, fun w' hxw hj => ?_, fun w' hxw hj => ?_, fun w' hxw hj => ?_, trivial⟩
          · have c0 := Ext.cell_some hxw c0
            have c1 := Ext.cell_some hxw c1
            have hcell := Ext.cell_some hxw hcell
            clear hj
            go_simp
            try go_bits
            first | rfl | (rw [if_pos (by omega), if_pos (by omega)]; go_simp; rfl) | (rw [if_pos (by omega)]; go_simp; rfl) | skip
          · have c0 := Ext.cell_some hxw c0
            have c1 := Ext.cell_some hxw c1
            have hcell := Ext.cell_some hxw hcell
            clear hj
            go_simp
            try go_bits
            first | rfl | (rw [if_pos (by omega), if_pos (by omega)]; go_simp; rfl) | (rw [if_pos (by omega)]; go_simp; rfl) | skip
          · have c0 := Ext.cell_some hxw c0
            have c1 := Ext.cell_some hxw c1
            have hcell := Ext.cell_some hxw hcell
            clear hj
            go_simp
            try go_bits
            first | rfl | (rw [if_pos (by omega), if_pos (by omega)]; go_simp; rfl) | (rw [if_pos (by omega)]; go_simp; rfl) | skip
          · have c0 := Ext.cell_some hxw c0
            have c1 := Ext.cell_some hxw c1
            have hcell := Ext.cell_some hxw hcell
            clear hj
            go_simp
            try go_bits
            first | rfl | (rw [if_pos (by omega), if_pos (by omega)]; go_simp; rfl) | (rw [if_pos (by omega)]; go_simp; rfl) | skip
          · have c0 := Ext.cell_some hxw c0
            have c1 := Ext.cell_some hxw c1
            have hcell := Ext.cell_some hxw hcell
            clear hj
            go_simp
            try go_bits
            first | rfl | (rw [if_pos (by omega), if_pos (by omega)]; go_simp; rfl) | (rw [if_pos (by omega)]; go_simp; rfl) | skip
          · have c0 := Ext.cell_some hxw c0
            have c1 := Ext.cell_some hxw c1
            have hcell := Ext.cell_some hxw hcell
            clear hj
            go_simp
            try go_bits
            first | rfl | (rw [if_pos (by omega), if_pos (by omega)]; go_simp; rfl) | (rw [if_pos (by omega)]; go_simp; rfl) | skip
          · have c0 := Ext.cell_some hxw c0
            have c1 := Ext.cell_some hxw c1
            have hcell := Ext.cell_some hxw hcell
            clear hj
            go_simp
            try go_bits
            first | rfl | (rw [if_pos (by omega), if_pos (by omega)]; go_simp; rfl) | (rw [if_pos (by omega)]; go_simp; rfl) | skip
          · have c0 := Ext.cell_some hxw c0
            have c1 := Ext.cell_some hxw c1
            have hcell := Ext.cell_some hxw hcell
            clear hj
            go_simp
            try go_bits
            first | rfl | (rw [if_pos (by omega), if_pos (by omega)]; go_simp; rfl) | (rw [if_pos (by omega)]; go_simp; rfl) | skip
          · have c0 := Ext.cell_some hxw c0
            have c1 := Ext.cell_some hxw c1
            have hcell := Ext.cell_some hxw hcell
            clear hj
            go_simp
            try go_bits
            first | rfl | (rw [if_pos (by omega), if_pos (by omega)]; go_simp; rfl) | (rw [if_pos (by omega)]; go_simp; rfl) | skip
          · have c0 := Ext.cell_some hxw c0
            have c1 := Ext.cell_some hxw c1
            have hcell := Ext.cell_some hxw hcell
            clear hj
            go_simp
            try go_bits
            first | rfl | (rw [if_pos (by omega), if_pos (by omega)]; go_simp; rfl) | (rw [if_pos (by omega)]; go_simp; rfl) | skip
          · have c0 := Ext.cell_some hxw c0
            have c1 := Ext.cell_some hxw c1
            have hcell := Ext.cell_some hxw hcell
            clear hj
            go_simp
            try go_bits
            first | rfl | (rw [if_pos (by omega), if_pos (by omega)]; go_simp; rfl) | (rw [if_pos (by omega)]; go_simp; rfl) | skip
          · have c0 := Ext.cell_some hxw c0
            have c1 := Ext.cell_some hxw c1
            have hcell := Ext.cell_some hxw hcell
            clear hj
            go_simp
            try go_bits
            first | rfl | (rw [if_pos (by omega), if_pos (by omega)]; go_simp; rfl) | (rw [if_pos (by omega)]; go_simp; rfl) | skip
          · have c0 := Ext.cell_some hxw c0
            have c1 := Ext.cell_some hxw c1
            have hcell := Ext.cell_some hxw hcell
            clear hj
            go_simp
            try go_bits
            first | rfl | (rw [if_pos (by omega), if_pos (by omega)]; go_simp; rfl) | (rw [if_pos (by omega)]; go_simp; rfl) | skip
          · have c0 := Ext.cell_some hxw c0
            have c1 := Ext.cell_some hxw c1
            have hcell := Ext.cell_some hxw hcell
            clear hj
            go_simp
            try go_bits
            first | rfl | (rw [if_pos (by omega), if_pos (by omega)]; go_simp; rfl) | (rw [if_pos (by omega)]; go_simp; rfl) | skip
          · have c0 := Ext.cell_some hxw c0
            have c1 := Ext.cell_some hxw c1
            have hcell := Ext.cell_some hxw hcell
            clear hj
            go_simp
            try go_bits
            first | rfl | (rw [if_pos (by omega), if_pos (by omega)]; go_simp; rfl) | (rw [if_pos (by omega)]; go_simp; rfl) | skip
          · have c0 := Ext.cell_some hxw c0
            have c1 := Ext.cell_some hxw c1
            have hcell := Ext.cell_some hxw hcell
            clear hj
            go_simp
            try go_bits
            first | rfl | (rw [if_pos (by omega), if_pos (by omega)]; go_simp; rfl) | (rw [if_pos (by omega)]; go_simp; rfl) | skip
          · have c0 := Ext.cell_some hxw c0
            have c1 := Ext.cell_some hxw c1
            have hcell := Ext.cell_some hxw hcell
            clear hj
            go_simp
            try go_bits
            first | rfl | (rw [if_pos (by omega), if_pos (by omega)]; go_simp; rfl) | (rw [if_pos (by omega)]; go_simp; rfl) | skip
          · have c0 := Ext.cell_some hxw c0
            have c1 := Ext.cell_some hxw c1
            have hcell := Ext.cell_some hxw hcell
            clear hj
            go_simp
            try go_bits
            first | rfl | (rw [if_pos (by omega), if_pos (by omega)]; go_simp; rfl) | (rw [if_pos (by omega)]; go_simp; rfl) | skip
          · have c0 := Ext.cell_some hxw c0
            have c1 := Ext.cell_some hxw c1
            have hcell := Ext.cell_some hxw hcell
            clear hj
            go_simp
            try go_bits
            first | rfl | (rw [if_pos (by omega), if_pos (by omega)]; go_simp; rfl) | (rw [if_pos (by omega)]; go_simp; rfl) | skip
          · have c0 := Ext.cell_some hxw c0
            have c1 := Ext.cell_some hxw c1
            have hcell := Ext.cell_some hxw hcell
            clear hj
            go_simp
            try go_bits
            first | rfl | (rw [if_pos (by omega), if_pos (by omega)]; go_simp; rfl) | (rw [if_pos (by omega)]; go_simp; rfl) | skip
          · have c0 := Ext.cell_some hxw c0
            have c1 := Ext.cell_some hxw c1
            have hcell := Ext.cell_some hxw hcell
            clear hj
            go_simp
            try go_bits
            first | rfl | (rw [if_pos (by omega), if_pos (by omega)]; go_simp; rfl) | (rw [if_pos (by omega)]; go_simp; rfl) | skip
          · have c0 := Ext.cell_some hxw c0
            have c1 := Ext.cell_some hxw c1
            have hcell := Ext.cell_some hxw hcell
            clear hj
            go_simp
            try go_bits
            first | rfl | (rw [if_pos (by omega), if_pos (by omega)]; go_simp; rfl) | (rw [if_pos (by omega)]; go_simp; rfl) | skip
          · have c0 := Ext.cell_some hxw c0
            have c1 := Ext.cell_some hxw c1
            have hcell := Ext.cell_some hxw hcell
            clear hj
            go_simp
            try go_bits
            exact (HC.out.1 _ ((HM.out.1.ext hxa).ext hxw)).mono fun _ _ ⟨h1, h2⟩ => ⟨h1, h2 ▸ Ext.refl _⟩
          · have c0 := Ext.cell_some hxw c0
            have c1 := Ext.cell_some hxw c1
            have hcell := Ext.cell_some hxw hcell
            clear hj
            go_simp
            try go_bits
            first | rfl | (rw [if_pos (by omega), if_pos (by omega)]; go_simp; rfl) | (rw [if_pos (by omega)]; go_simp; rfl) | skip
        case' hx7_18_p =>
          intro vs w7 hx7 hk
          clear hk
          replace c0 := Ext.cell_some hx7 c0
          replace c1 := Ext.cell_some hx7 c1
          replace hcell := Ext.cell_some hx7 hcell
          replace hxr := Ext.trans hxr hx7
          replace hxa := Ext.trans hxa hx7
          go_simp
          clear hx7 c0 c1
          go_wp2
          go_roundw
          case rel => exact ⟨k + 1, by omega, by go_num, fun j hj => by
            by_cases e : j = k
            · subst e; show adjL F (st.getD j []) u = false; rw [← HX.out.2, HC.out.2]; rfl
            · exact HP.out j (by omega), hxr⟩
          case measure => simp [intOf]; omega
    · have HV := Lib.hid (show (st.any fun x => adjL F x u) = true by rw [List.any_eq_true]; exact ⟨x, HX.out.1, by rw [HC.out.2]; rfl⟩)
      go_wp2
      refine wp_region_inv (by kernel_rfl) (.known ?hx6_19_v0 :: .known ?hx6_19_v1 :: .known ?hx6_19_v2 :: .known ?hx6_19_v3 :: .known ?hx6_19_v4 :: .known ?hx6_19_v5 :: .known ?hx6_19_v6 :: .known ?hx6_19_v7 :: .known ?hx6_19_v8 :: .known ?hx6_19_v9 :: .known ?hx6_19_v10 :: .known ?hx6_19_v11 :: .known ?hx6_19_v12 :: .known ?hx6_19_v13 :: .known ?hx6_19_v14 :: .known ?hx6_19_v15 :: .known ?hx6_19_v16 :: .known ?hx6_19_v17 :: .known ?hx6_19_v18 :: .known ?hx6_19_v19 :: .known ?hx6_19_v20 :: .known ?hx6_19_v21 :: .known ?hx6_19_v22 :: []) rfl (by kernel_rfl) ?hx6_19_s ?hx6_19_p
      case hx6_19_s =>
        intro vs
        refine ⟨fun w' hxw hj => ?_, fun w' hxw hj => ?_, fun w' hxw hj => ?_, fun w' hxw hj => ?_, fun w' hxw hj => ?_, fun w' hxw hj => ?_, fun w' hxw hj => ?_, fun w' hxw hj => ?_, fun w' hxw hj => ?_, fun w' hxw hj => ?_, fun w' hxw hj => ?_, fun w' hxw hj => ?_, fun w' hxw hj => ?_, fun w' hxw hj => ?_, fun w' hxw hj => ?_, fun w' hxw hj => ?_, fun w' hxw hj => ?_, fun w' hxw hj => ?_, fun w' hxw hj => ?_, fun w' hxw hj => ?_, fun w' hxw hj => ?_, fun w' hxw hj => ?_, fun w' hxw hj => ?_, trivial⟩
        · have c0 := Ext.cell_some hxw c0
          have c1 := Ext.cell_some hxw c1
          have hcell := Ext.cell_some hxw hcell
          clear hj
          go_simp
          try go_bits
          first | rfl | (rw [if_pos (by omega), if_pos (by omega)]; go_simp; rfl) | (rw [if_pos (by omega)]; go_simp; rfl) | skip
        · have c0 := Ext.cell_some hxw c0
          have c1 := Ext.cell_some hxw c1
          have hcell := Ext.cell_some hxw hcell
          clear hj
          go_simp
          try go_bits
          first | rfl | (rw [if_pos (by omega), if_pos (by omega)]; go_simp; rfl) | (rw [if_pos (by omega)]; go_simp; rfl) | skip
        · have c0 := Ext.cell_some hxw c0
          have c1 := Ext.cell_some hxw c1
          have hcell := Ext.cell_some hxw hcell
          clear hj
          go_simp
          try go_bits
          first | rfl | (rw [if_pos (by omega), if_pos (by omega)]; go_simp; rfl) | (rw [if_pos (by omega)]; go_simp; rfl) | skip
        · have c0 := Ext.cell_some hxw c0
          have c1 := Ext.cell_some hxw c1
          have hcell := Ext.cell_some hxw hcell
          clear hj
          go_simp
          try go_bits
          first | rfl | (rw [if_pos (by omega), if_pos (by omega)]; go_simp; rfl) | (rw [if_pos (by omega)]; go_simp; rfl) | skip
        · have c0 := Ext.cell_some hxw c0
          have c1 := Ext.cell_some hxw c1
          have hcell := Ext.cell_some hxw hcell
          clear hj
          go_simp
          try go_bits
          first | rfl | (rw [if_pos (by omega), if_pos (by omega)]; go_simp; rfl) | (rw [if_pos (by omega)]; go_simp; rfl) | skip
        · have c0 := Ext.cell_some hxw c0
          have c1 := Ext.cell_some hxw c1
          have hcell := Ext.cell_some hxw hcell
          clear hj
          go_simp
          try go_bits
          first | rfl | (rw [if_pos (by omega), if_pos (by omega)]; go_simp; rfl) | (rw [if_pos (by omega)]; go_simp; rfl) | skip
        · have c0 := Ext.cell_some hxw c0
          have c1 := Ext.cell_some hxw c1
          have hcell := Ext.cell_some hxw hcell
          clear hj
          go_simp
          try go_bits
          first | rfl | (rw [if_pos (by omega), if_pos (by omega)]; go_simp; rfl) | (rw [if_pos (by omega)]; go_simp; rfl) | skip
        · have c0 := Ext.cell_some hxw c0
          have c1 := Ext.cell_some hxw c1
          have hcell := Ext.cell_some hxw hcell
          clear hj
          go_simp
          try go_bits
          first | rfl | (rw [if_pos (by omega), if_pos (by omega)]; go_simp; rfl) | (rw [if_pos (by omega)]; go_simp; rfl) | skip
        · have c0 := Ext.cell_some hxw c0
          have c1 := Ext.cell_some hxw c1
          have hcell := Ext.cell_some hxw hcell
          clear hj
          go_simp
          try go_bits
          first | rfl | (rw [if_pos (by omega), if_pos (by omega)]; go_simp; rfl) | (rw [if_pos (by omega)]; go_simp; rfl) | skip
        · have c0 := Ext.cell_some hxw c0
          have c1 := Ext.cell_some hxw c1
          have hcell := Ext.cell_some hxw hcell
          clear hj
          go_simp
          try go_bits
          first | rfl | (rw [if_pos (by omega), if_pos (by omega)]; go_simp; rfl) | (rw [if_pos (by omega)]; go_simp; rfl) | skip
        · have c0 := Ext.cell_some hxw c0
          have c1 := Ext.cell_some hxw c1
          have hcell := Ext.cell_some hxw hcell
          clear hj
          go_simp
          try go_bits
          first | rfl | (rw [if_pos (by omega), if_pos (by omega)]; go_simp; rfl) | (rw [if_pos (by omega)]; go_simp; rfl) | skip
        · have c0 := Ext.cell_some hxw c0
          have c1 := Ext.cell_some hxw c1
          have hcell := Ext.cell_some hxw hcell
          clear hj
          go_simp
          try go_bits
          first | rfl | (rw [if_pos (by omega), if_pos (by omega)]; go_simp; rfl) | (rw [if_pos (by omega)]; go_simp; rfl) | skip
        · have c0 := Ext.cell_some hxw c0
          have c1 := Ext.cell_some hxw c1
          have hcell := Ext.cell_some hxw hcell
          clear hj
          go_simp
          try go_bits
          first | rfl | (rw [if_pos (by omega), if_pos (by omega)]; go_simp; rfl) | (rw [if_pos (by omega)]; go_simp; rfl) | skip
        · have c0 := Ext.cell_some hxw c0
          have c1 := Ext.cell_some hxw c1
          have hcell := Ext.cell_some hxw hcell
          clear hj
          go_simp
          try go_bits
          first | rfl | (rw [if_pos (by omega), if_pos (by omega)]; go_simp; rfl) | (rw [if_pos (by omega)]; go_simp; rfl) | skip
        · have c0 := Ext.cell_some hxw c0
          have c1 := Ext.cell_some hxw c1
          have hcell := Ext.cell_some hxw hcell
          clear hj
          go_simp
          try go_bits
          first | rfl | (rw [if_pos (by omega), if_pos (by omega)]; go_simp; rfl) | (rw [if_pos (by omega)]; go_simp; rfl) | skip
        · have c0 := Ext.cell_some hxw c0
          have c1 := Ext.cell_some hxw c1
          have hcell := Ext.cell_some hxw hcell
          clear hj
          go_simp
          try go_bits
          first | rfl | (rw [if_pos (by omega), if_pos (by omega)]; go_simp; rfl) | (rw [if_pos (by omega)]; go_simp; rfl) | skip
        · have c0 := Ext.cell_some hxw c0
          have c1 := Ext.cell_some hxw c1
          have hcell := Ext.cell_some hxw hcell
          clear hj
          go_simp
          try go_bits
          first | rfl | (rw [if_pos (by omega), if_pos (by omega)]; go_simp; rfl) | (rw [if_pos (by omega)]; go_simp; rfl) | skip
        · have c0 := Ext.cell_some hxw c0
          have c1 := Ext.cell_some hxw c1
          have hcell := Ext.cell_some hxw hcell
          clear hj
          go_simp
          try go_bits
          first | rfl | (rw [if_pos (by omega), if_pos (by omega)]; go_simp; rfl) | (rw [if_pos (by omega)]; go_simp; rfl) | skip
        · have c0 := Ext.cell_some hxw c0
          have c1 := Ext.cell_some hxw c1
          have hcell := Ext.cell_some hxw hcell
          clear hj
          go_simp
          try go_bits
          first | rfl | (rw [if_pos (by omega), if_pos (by omega)]; go_simp; rfl) | (rw [if_pos (by omega)]; go_simp; rfl) | skip
        · have c0 := Ext.cell_some hxw c0
          have c1 := Ext.cell_some hxw c1
          have hcell := Ext.cell_some hxw hcell
          clear hj
          go_simp
          try go_bits
          first | rfl | (rw [if_pos (by omega), if_pos (by omega)]; go_simp; rfl) | (rw [if_pos (by omega)]; go_simp; rfl) | skip
        · have c0 := Ext.cell_some hxw c0
          have c1 := Ext.cell_some hxw c1
          have hcell := Ext.cell_some hxw hcell
          clear hj
          go_simp
          try go_bits
          first | rfl | (rw [if_pos (by omega), if_pos (by omega)]; go_simp; rfl) | (rw [if_pos (by omega)]; go_simp; rfl) | skip
        · have c0 := Ext.cell_some hxw c0
          have c1 := Ext.cell_some hxw c1
          have hcell := Ext.cell_some hxw hcell
          clear hj
          go_simp
          try go_bits
          first | rfl | (rw [if_pos (by omega), if_pos (by omega)]; go_simp; rfl) | (rw [if_pos (by omega)]; go_simp; rfl) | skip
        · have c0 := Ext.cell_some hxw c0
          have c1 := Ext.cell_some hxw c1
          have hcell := Ext.cell_some hxw hcell
          clear hj
          go_simp
          try go_bits
          first | rfl | (rw [if_pos (by omega), if_pos (by omega)]; go_simp; rfl) | (rw [if_pos (by omega)]; go_simp; rfl) | skip
      case' hx6_19_p =>
        intro vs w6 hx6 hk
        clear hk
        replace c0 := Ext.cell_some hx6 c0
        replace c1 := Ext.cell_some hx6 c1
        replace hcell := Ext.cell_some hx6 hcell
        replace hxr := Ext.trans hxr hx6
        replace hxa := Ext.trans hxa hx6
        go_simp
        clear hx6
        go_wp2
        refine wp_region_inv (by kernel_rfl) (.known ?hx7_20_v0 :: .known ?hx7_20_v1 :: .known ?hx7_20_v2 :: .known ?hx7_20_v3 :: .known ?hx7_20_v4 :: .known ?hx7_20_v5 :: .known ?hx7_20_v6 :: .known ?hx7_20_v7 :: .known ?hx7_20_v8 :: .known ?hx7_20_v9 :: .known ?hx7_20_v10 :: .known ?hx7_20_v11 :: .known ?hx7_20_v12 :: .known ?hx7_20_v13 :: .known ?hx7_20_v14 :: .known ?hx7_20_v15 :: .known ?hx7_20_v16 :: .known ?hx7_20_v17 :: .known ?hx7_20_v18 :: .known ?hx7_20_v19 :: .known ?hx7_20_v20 :: .known ?hx7_20_v21 :: .known (.bool true) :: .known ?hx7_20_v23 :: []) rfl (by kernel_rfl) ?hx7_20_s ?hx7_20_p
        case hx7_20_s =>
          intro vs
          refine ⟨fun w' hxw hj => ?_, fun w' hxw hj => ?_, fun w' hxw hj => ?_, fun w' hxw hj => ?_, fun w' hxw hj => ?_, fun w' hxw hj => ?_, fun w' hxw hj => ?_, fun w' hxw hj => ?_, fun w' hxw hj => ?_, fun w' hxw hj => ?_, fun w' hxw hj => ?_, fun w' hxw hj => ?_, fun w' hxw hj => ?_, fun w' hxw hj => ?_, fun w' hxw hj => ?_, fun w' hxw hj => ?_, fun w' hxw hj => ?_, fun w' hxw hj => ?_, fun w' hxw hj => ?_, fun w' hxw hj => ?_, fun w' hxw hj => ?_, fun w' hxw hj => ?_, fun w' hxw hj => ?_, fun w' hxw hj => ?_, trivial⟩
          · have c0 := Ext.cell_some hxw c0
            have c1 := Ext.cell_some hxw c1
            have hcell := Ext.cell_some hxw hcell
            clear hj
            go_simp
            try go_bits
            first | rfl | (rw [if_pos (by omega), if_pos (by omega)]; go_simp; rfl) | (rw [if_pos (by omega)]; go_simp; rfl) | skip
          · have c0 := Ext.cell_some hxw c0
            have c1 := Ext.cell_some hxw c1
            have hcell := Ext.cell_some hxw hcell
            clear hj
            go_simp
            try go_bits
            first | rfl | (rw [if_pos (by omega), if_pos (by omega)]; go_simp; rfl) | (rw [if_pos (by omega)]; go_simp; rfl) | skip
          · have c0 := Ext.cell_some hxw c0
            have c1 := Ext.cell_some hxw c1
            have hcell := Ext.cell_some hxw hcell
            clear hj
            go_simp
            try go_bits
            first | rfl | (rw [if_pos (by omega), if_pos (by omega)]; go_simp; rfl) | (rw [if_pos (by omega)]; go_simp; rfl) | skip
          · have c0 := Ext.cell_some hxw c0
            have c1 := Ext.cell_some hxw c1
            have hcell := Ext.cell_some hxw hcell
            clear hj
            go_simp
            try go_bits
            first | rfl | (rw [if_pos (by omega), if_pos (by omega)]; go_simp; rfl) | (rw [if_pos (by omega)]; go_simp; rfl) | skip
          · have c0 := Ext.cell_some hxw c0
            have c1 := Ext.cell_some hxw c1
            have hcell := Ext.cell_some hxw hcell
            clear hj
            go_simp
            try go_bits
            first | rfl | (rw [if_pos (by omega), if_pos (by omega)]; go_simp; rfl) | (rw [if_pos (by omega)]; go_simp; rfl) | skip
          · have c0 := Ext.cell_some hxw c0
            have c1 := Ext.cell_some hxw c1
            have hcell := Ext.cell_some hxw hcell
            clear hj
            go_simp
            try go_bits
            first | rfl | (rw [if_pos (by omega), if_pos (by omega)]; go_simp; rfl) | (rw [if_pos (by omega)]; go_simp; rfl) | skip
          · have c0 := Ext.cell_some hxw c0
            have c1 := Ext.cell_some hxw c1
            have hcell := Ext.cell_some hxw hcell
            clear hj
            go_simp
            try go_bits
            first | rfl | (rw [if_pos (by omega), if_pos (by omega)]; go_simp; rfl) | (rw [if_pos (by omega)]; go_simp; rfl) | skip
          · have c0 := Ext.cell_some hxw c0
            have c1 := Ext.cell_some hxw c1
            have hcell := Ext.cell_some hxw hcell
            clear hj
            go_simp
            try go_bits
            first | rfl | (rw [if_pos (by omega), if_pos (by omega)]; go_simp; rfl) | (rw [if_pos (by omega)]; go_simp; rfl) | skip
          · have c0 := Ext.cell_some hxw c0
            have c1 := Ext.cell_some hxw c1
            have hcell := Ext.cell_some hxw hcell
            clear hj
            go_simp
            try go_bits
            first | rfl | (rw [if_pos (by omega), if_pos (by omega)]; go_simp; rfl) | (rw [if_pos (by omega)]; go_simp; rfl) | skip
          · have c0 := Ext.cell_some hxw c0
            have c1 := Ext.cell_some hxw c1
            have hcell := Ext.cell_some hxw hcell
            clear hj
            go_simp
            try go_bits
            first | rfl | (rw [if_pos (by omega), if_pos (by omega)]; go_simp; rfl) | (rw [if_pos (by omega)]; go_simp; rfl) | skip
          · have c0 := Ext.cell_some hxw c0
            have c1 := Ext.cell_some hxw c1
            have hcell := Ext.cell_some hxw hcell
            clear hj
            go_simp
            try go_bits
            first | rfl | (rw [if_pos (by omega), if_pos (by omega)]; go_simp; rfl) | (rw [if_pos (by omega)]; go_simp; rfl) | skip
          · have c0 := Ext.cell_some hxw c0
            have c1 := Ext.cell_some hxw c1
            have hcell := Ext.cell_some hxw hcell
            clear hj
            go_simp
            try go_bits
            first | rfl | (rw [if_pos (by omega), if_pos (by omega)]; go_simp; rfl) | (rw [if_pos (by omega)]; go_simp; rfl) | skip
          · have c0 := Ext.cell_some hxw c0
            have c1 := Ext.cell_some hxw c1
            have hcell := Ext.cell_some hxw hcell
            clear hj
            go_simp
            try go_bits
            first | rfl | (rw [if_pos (by omega), if_pos (by omega)]; go_simp; rfl) | (rw [if_pos (by omega)]; go_simp; rfl) | skip
          · have c0 := Ext.cell_some hxw c0
            have c1 := Ext.cell_some hxw c1
            have hcell := Ext.cell_some hxw hcell
            clear hj
            go_simp
            try go_bits
            first | rfl | (rw [if_pos (by omega), if_pos (by omega)]; go_simp; rfl) | (rw [if_pos (by omega)]; go_simp; rfl) | skip
          · have c0 := Ext.cell_some hxw c0
            have c1 := Ext.cell_some hxw c1
            have hcell := Ext.cell_some hxw hcell
            clear hj
            go_simp
            try go_bits
            first | rfl | (rw [if_pos (by omega), if_pos (by omega)]; go_simp; rfl) | (rw [if_pos (by omega)]; go_simp; rfl) | skip
          · have c0 := Ext.cell_some hxw c0
            have c1 := Ext.cell_some hxw c1
            have hcell := Ext.cell_some hxw hcell
            clear hj
            go_simp
            try go_bits
            first | rfl | (rw [if_pos (by omega), if_pos (by omega)]; go_simp; rfl) | (rw [if_pos (by omega)]; go_simp; rfl) | skip
          · have c0 := Ext.cell_some hxw c0
            have c1 := Ext.cell_some hxw c1
            have hcell := Ext.cell_some hxw hcell
            clear hj
            go_simp
            try go_bits
            first | rfl | (rw [if_pos (by omega), if_pos (by omega)]; go_simp; rfl) | (rw [if_pos (by omega)]; go_simp; rfl) | skip
          · have c0 := Ext.cell_some hxw c0
            have c1 := Ext.cell_some hxw c1
            have hcell := Ext.cell_some hxw hcell
            clear hj
            go_simp
            try go_bits
            first | rfl | (rw [if_pos (by omega), if_pos (by omega)]; go_simp; rfl) | (rw [if_pos (by omega)]; go_simp; rfl) | skip
          · have c0 := Ext.cell_some hxw c0
            have c1 := Ext.cell_some hxw c1
            have hcell := Ext.cell_some hxw hcell
            clear hj
            go_simp
            try go_bits
            first | rfl | (rw [if_pos (by omega), if_pos (by omega)]; go_simp; rfl) | (rw [if_pos (by omega)]; go_simp; rfl) | skip
          · have c0 := Ext.cell_some hxw c0
            have c1 := Ext.cell_some hxw c1
            have hcell := Ext.cell_some hxw hcell
            clear hj
            go_simp
            try go_bits
            first | rfl | (rw [if_pos (by omega), if_pos (by omega)]; go_simp; rfl) | (rw [if_pos (by omega)]; go_simp; rfl) | skip
          · have c0 := Ext.cell_some hxw c0
            have c1 := Ext.cell_some hxw c1
            have hcell := Ext.cell_some hxw hcell
            clear hj
            go_simp
            try go_bits
            first | rfl | (rw [if_pos (by omega), if_pos (by omega)]; go_simp; rfl) | (rw [if_pos (by omega)]; go_simp; rfl) | skip
          · have c0 := Ext.cell_some hxw c0
            have c1 := Ext.cell_some hxw c1
            have hcell := Ext.cell_some hxw hcell
            clear hj
            go_simp
            try go_bits
            first | rfl | (rw [if_pos (by omega), if_pos (by omega)]; go_simp; rfl) | (rw [if_pos (by omega)]; go_simp; rfl) | skip
          · have c0 := Ext.cell_some hxw c0
            have c1 := Ext.cell_some hxw c1
            have hcell := Ext.cell_some hxw hcell
            clear hj
            go_simp
            try go_bits
            exact (HC.out.1 _ ((HM.out.1.ext hxa).ext hxw)).mono fun _ _ ⟨h1, h2⟩ => ⟨h1, h2 ▸ Ext.refl _⟩
          · have c0 := Ext.cell_some hxw c0
            have c1 := Ext.cell_some hxw c1
            have hcell := Ext.cell_some hxw hcell
            clear hj
            go_simp
            try go_bits
            first | rfl | (rw [if_pos (by omega), if_pos (by omega)]; go_simp; rfl) | (rw [if_pos (by omega)]; go_simp; rfl) | skip
        case' hx7_20_p =>
          intro vs w7 hx7 hk
          clear hk
          replace c0 := Ext.cell_some hx7 c0
          replace c1 := Ext.cell_some hx7 c1
          replace hcell := Ext.cell_some hx7 hcell
          replace hxr := Ext.trans hxr hx7
          replace hxa := Ext.trans hxa hx7
          go_simp
          clear hx7
          go_wp2
          go_ret
          exact ⟨ret_bool HV.out.symm, hxa⟩
end Go.Proofs.YtgbbidlbdjbilaaDoor

/- Contracts: whether there is no growth, by the program and by the reference. -/
import Derived.Test.YtdngkfedkgiioaaDoorCompsB
import Derived.Test.YtdngkfedkgiioaaDoorLessA
import Derived.Test.YtdngkfedkgiioaaDoorSumA
namespace Go.Mx
open Go
theorem compL_at {m : List (List Int)} {k : Nat} (h : k < (compL m).length) : ∃ i, i < m.length ∧ headB m i = true ∧ (compL m).getD k [] = partOf m i m.length := by
  have hm : (compL m).getD k [] ∈ compL m := by rw [List.getD_eq_getElem?_getD, List.getElem?_eq_getElem h]; exact List.getElem_mem h
  exact compL_mem hm
theorem partOf_bd (m : List (List Int)) (i k j : Nat) (h : j < (partOf m i k).length) : ∃ q : Nat, (partOf m i k).getD j 0 = (q : Int) ∧ q < k := by
  have hm : (partOf m i k).getD j 0 ∈ partOf m i k := by rw [List.getD_eq_getElem?_getD, List.getElem?_eq_getElem h]; exact List.getElem_mem h
  obtain ⟨q, h1, h2, _⟩ := (mem_partOf m i k _).1 hm
  exact ⟨q, h1, h2⟩
theorem part_mat {m : List (List Int)} (hm : IsM m.length m) {l : List Int} (h1 : 1 ≤ l.length) (h9 : l.length ≤ 9) : isMat (partL m l) = true := by
  unfold isMat
  rw [partL_length, decide_eq_true ⟨h1, h9⟩, Bool.true_and, List.all_eq_true]
  intro r hr
  simp only [partL, List.mem_map] at hr
  obtain ⟨x, _, rfl⟩ := hr
  rw [rowOk_of (by rw [List.length_map]), List.all_eq_true]
  intro y hy
  rw [List.mem_map] at hy
  obtain ⟨z, _, rfl⟩ := hy
  have h1 := hm.low x.toNat z.toNat
  have h2 := hm.high x.toNat z.toNat
  exact decide_eq_true ⟨h1, h2⟩
theorem head_pos {m : List (List Int)} {i : Nat} (hi : i < m.length) (h : headB m i = true) : 1 ≤ (partOf m i m.length).length := by
  rw [partOf_head m i hi, Bool.and_eq_true, decide_eq_true_eq] at h
  exact h.1
end Go.Mx
namespace Go.Proofs.YtdngkfedkgiioaaDoor
open Go.RowKit Go.Mx

def lightV (m : List (List Int)) : Bool := isSm m && lightP m
theorem lightV_no {m : List (List Int)} (h : isSm m = false) : lightV m = false := by unfold lightV; rw [h]; rfl
theorem lightV_yes {m : List (List Int)} (h : isSm m = true) : lightV m = lightP m := by unfold lightV; rw [h]; rfl
theorem light_eq {m : List (List Int)} (h : isSm m = true) : lightP m = lightR m := by
  have hm := (isSm_IsS h).mat
  refine light_same (fun i j => hm.low i j) (fun i j hij => ?_)
  unfold at2
  by_cases hi : i < m.length
  · rw [List.getD_eq_getElem?_getD, List.getElem?_eq_none (by rw [hm.row i hi]; omega)]; rfl
  · have e : m.getD i [] = [] := by rw [List.getD_eq_getElem?_getD, List.getElem?_eq_none (by omega)]; rfl
    rw [e]; rfl

set_option maxRecDepth 100000 in
set_option maxHeartbeats 4000000 in
theorem impl_IsGrowthless_any (v : Value) (m : List (List Int)) (w : World) (h : ReadsRows w v m) :
    Calls Tryd.prog 42 #[v] w fun e w' => e = .returned (.bool (lightV m)) ∧ Ext w w' := by
  have hs := impl_IsSmall_any v m w h
  cases hsm : isSm m with
  | false =>
    rw [hsm] at hs
    have HI := Lib.hid (And.intro hs (lightV_no hsm))
    clear hs hsm
    go_enter Tryd.func42, Tryd.ntmps42
    go_wp2_with (go_at_call 21; with_reducible refine HI.out.1.mono ?_; rintro e w' ⟨rfl, rfl⟩)
    go_ret
    exact ⟨ret_bool HI.out.2.symm, Ext.refl _⟩
  | true =>
    rw [hsm] at hs
    have hS := isSm_IsS hsm
    have hmat : isMat m = true := by
      unfold isSm at hsm
      rw [Bool.and_eq_true] at hsm
      exact hsm.1
    have hco := impl_ComponentsOf_any v m w h hmat
    have hn4 := hS.four
    have HI := Lib.hid (And.intro hs (And.intro (lightV_yes hsm) (And.intro hco (And.intro hS h))))
    clear hs hsm hS hmat hco h
    go_enter Tryd.func42, Tryd.ntmps42
    go_wp2_with (first | (go_at_call 21; with_reducible refine HI.out.1.mono ?_; rintro e w' ⟨rfl, rfl⟩) | (go_at_call 76; with_reducible refine HI.out.2.2.1.mono ?_; rintro e w1 ⟨u, rfl, hrd, hx⟩; obtain ⟨pc, cc, hu⟩ := hrd.slice; subst hu; have hlc1 := hrd.len.2.1; have hlc2 := hrd.len.2.2; have HR := Lib.hid (And.intro hrd hx); clear hrd hx))
    obtain ⟨C, hC⟩ : ∃ C, C = (compL m).length := ⟨_, rfl⟩
    rw [← hC] at hlc1 ⊢
    have HC := Lib.hid hC
    clear hC
    go_loopw [13] (fun q wr => ∃ k : Nat, k ≤ C ∧ q = .int .i64 k ∧ ((compL m).take k).all (fun l => (partL m l).all fun r => decide (r.sum ≤ 1)) = true ∧ Ext w1 wr) (fun q _ => C - (intOf q).toNat)
    case atStart => exact ⟨0, by omega, rfl, by simp, Ext.refl _⟩
    case round =>
      obtain ⟨k, hk, rfl, hp, hx1⟩ := hrel
      by_cases hlt : k < C
      · have hkc : k < (compL m).length := by rw [← HC.out]; exact hlt
        obtain ⟨i0, hi0, hh, hpe⟩ := compL_at hkc
        have hpl : (partOf m i0 m.length).length ≤ 4 := Nat.le_trans (partOf_length m i0 m.length) hn4
        obtain ⟨bk, o, a', c', rfl, hcell, hrow⟩ := HR.out.1.at k hkc
        have hnext := fun h2 => all_next (p := fun l => (partL m l).all fun r => decide (r.sum ≤ 1)) [] hkc hp h2
        have hbad := all_bad (p := fun l => (partL m l).all fun r => decide (r.sum ≤ 1)) (l := compL m) [] hkc
        rw [hpe] at hcell hrow hnext hbad
        obtain ⟨l, hl⟩ : ∃ l, l = partOf m i0 m.length := ⟨_, rfl⟩
        have hlb := partOf_bd m i0 m.length
        rw [← hl] at hcell hrow hnext hbad hpl hlb
        replace hcell := hx1.cell_some hcell
        have hpk := impl_picked_any _ _ m l m.length wr ((HI.out.2.2.2.2.ext HR.out.2).ext hx1) (hrow.ext hx1) (by omega) rfl HI.out.2.2.2.1.mat.row hlb
        have hlc := hrow.len.2.1
        have hpll := partL_length m l
        obtain ⟨K, hK⟩ : ∃ K, K = l.length := ⟨_, rfl⟩
        rw [← hK] at hcell hpk hlc hpl hpll
        have hrb : ∀ r ∈ partL m l, r.length = K ∧ ∀ j, 0 ≤ r.getD j 0 ∧ r.getD j 0 ≤ 1000000 := by
          intro r hr
          simp only [partL, List.mem_map] at hr
          obtain ⟨x, _, rfl⟩ := hr
          refine ⟨by rw [List.length_map, hK], fun j => ?_⟩
          exact map_getD_bd (by omega) (by omega) (fun z => ⟨HI.out.2.2.2.1.mat.low _ _, HI.out.2.2.2.1.mat.high _ _⟩) j
        have HP := Lib.hid (And.intro hpk (And.intro hnext (And.intro hbad (And.intro hpll hrb))))
        clear hpk hnext hbad hpll hrb hrow hlb hl hpe hh hi0 hkc hp hK
        go_wp2_with fail
        with_reducible refine HP.out.1.mono ?_
        rintro e w2 ⟨u2, rfl, hres, hx2⟩
        have hrd2 := hres.reads
        obtain ⟨p2, c2, rfl⟩ := hrd2.slice
        have hl21 := hrd2.len.2.1
        have hl22 := hrd2.len.2.2
        rw [HP.out.2.2.2.1] at hl21 hrd2 ⊢
        have HS := Lib.hid hrd2
        clear hres hrd2
        go_wp2
        go_loopw [21] (fun q wr => ∃ j : Nat, j ≤ K ∧ q = .int .i64 j ∧ ((partL m l).take j).all (fun r => decide (r.sum ≤ 1)) = true ∧ Ext w2 wr) (fun q _ => K - (intOf q).toNat)
        case atStart => exact ⟨0, by omega, rfl, by simp, Ext.refl _⟩
        case round =>
          obtain ⟨j, hj, rfl, hpj, hx3⟩ := hrel
          by_cases hltj : j < K
          · have hjc : j < (partL m l).length := by rw [HP.out.2.2.2.1]; exact hltj
            obtain ⟨bk2, o2, a2, c3, rfl, hcell2, hrow2⟩ := (HS.out.ext hx3).at j hjc
            have hrm : (partL m l).getD j [] ∈ partL m l := by rw [List.getD_eq_getElem?_getD, List.getElem?_eq_getElem hjc]; exact List.getElem_mem hjc
            obtain ⟨hrl, hrbd⟩ := HP.out.2.2.2.2 _ hrm
            have hto := impl_total_any _ _ wr hrow2 (by rw [hrl]; omega) hrbd
            have hnx := fun h2 => all_next (p := fun r => decide (r.sum ≤ 1)) [] hjc hpj h2
            have hbd := all_bad (p := fun r : List Int => decide (r.sum ≤ 1)) (l := partL m l) [] hjc
            rw [hrl] at hcell2 hto
            obtain ⟨s, hs⟩ : ∃ s, s = ((partL m l).getD j []).sum := ⟨_, rfl⟩
            rw [← hs] at hto hnx hbd
            have HK := Lib.hid (And.intro hto (And.intro hnx hbd))
            clear hto hnx hbd hs hrm hrl hrbd hrow2 hjc hpj
            go_wp2_with fail
            with_reducible refine HK.out.1.mono ?_
            rintro e w' ⟨rfl, rfl⟩
            by_cases hs1 : 1 < s
            · have hf := HP.out.2.2.1 (HK.out.2.2 (decide_eq_false (by omega)))
              have HF := Lib.hid (show lightP m = false from hf)
              clear hf
              go_wp2
              go_ret
              exact ⟨ret_bool (by rw [HI.out.2.1, HF.out]), Ext.trans HR.out.2 (hx1.trans (hx2.trans hx3))⟩
            · have HN := Lib.hid (HK.out.2.1 (decide_eq_true (by omega)))
              go_wp2
              go_roundw
              case rel => exact ⟨j + 1, by omega, by go_num, HN.out, hx3⟩
              case measure => simp [intOf]; omega
          · have hjK : j = K := by omega
            rw [hjK, ← HP.out.2.2.2.1, List.take_length] at hpj
            have HN := Lib.hid (HP.out.2.1 hpj)
            clear hpj
            subst hjK
            go_wp2
            go_roundw
            case rel => exact ⟨k + 1, by omega, by go_num, HN.out, hx1.trans (hx2.trans hx3)⟩
            case measure => simp [intOf]; omega
      · have hkC : k = C := by omega
        rw [hkC, HC.out] at hp
        have HN := Lib.hid (show lightP m = true from all_done hp)
        clear hp
        subst hkC
        go_wp2
        go_ret
        exact ⟨ret_bool (by rw [HI.out.2.1, HN.out]), Ext.trans HR.out.2 hx1⟩

set_option maxRecDepth 100000 in
set_option maxHeartbeats 4000000 in
theorem spec_l8Light_any (v : Value) (m : List (List Int)) (w : World) (h : ReadsRows w v m) (hsm : isSm m = true) :
    Calls Tryd.prog 78 #[v] w fun e w' => e = .returned (.bool (lightR m)) ∧ Ext w w' := by
  have hS := isSm_IsS hsm
  have hmat : isMat m = true := by
    unfold isSm at hsm
    rw [Bool.and_eq_true] at hsm
    exact hsm.1
  have hco := spec_ComponentsOf_any v m w h hmat
  have hn4 := hS.four
  have HI := Lib.hid (And.intro hco (And.intro hS h))
  clear hsm hS hmat hco h
  go_enter Tryd.func78, Tryd.ntmps78
  go_wp2_with (go_at_call 93; with_reducible refine HI.out.1.mono ?_; rintro e w1 ⟨u, rfl, hrd, hx⟩; obtain ⟨pc, cc, hu⟩ := hrd.slice; subst hu; have hlc1 := hrd.len.2.1; have hlc2 := hrd.len.2.2; have HR := Lib.hid (And.intro hrd hx); clear hrd hx)
  obtain ⟨C, hC⟩ : ∃ C, C = (compL m).length := ⟨_, rfl⟩
  rw [← hC] at hlc1 ⊢
  have HC := Lib.hid hC
  clear hC
  go_loopw [4] (fun q wr => ∃ k : Nat, k ≤ C ∧ q = .int .i64 k ∧ ((compL m).take k).all (fun l => decide (sumM (partL m l) = (l.length : Int))) = true ∧ Ext w1 wr) (fun q _ => C - (intOf q).toNat)
  case atStart => exact ⟨0, by omega, rfl, by simp, Ext.refl _⟩
  case round =>
    obtain ⟨k, hk, rfl, hp, hx1⟩ := hrel
    by_cases hlt : k < C
    · have hkc : k < (compL m).length := by rw [← HC.out]; exact hlt
      obtain ⟨i0, hi0, hh, hpe⟩ := compL_at hkc
      have hpl : (partOf m i0 m.length).length ≤ 4 := Nat.le_trans (partOf_length m i0 m.length) hn4
      have hp1 := head_pos hi0 hh
      obtain ⟨bk, o, a', c', rfl, hcell, hrow⟩ := HR.out.1.at k hkc
      have hnext := fun h2 => all_next (p := fun l => decide (sumM (partL m l) = (l.length : Int))) [] hkc hp h2
      have hbad := all_bad (p := fun l : List Int => decide (sumM (partL m l) = (l.length : Int))) (l := compL m) [] hkc
      rw [hpe] at hcell hrow hnext hbad
      obtain ⟨l, hl⟩ : ∃ l, l = partOf m i0 m.length := ⟨_, rfl⟩
      have hlb := partOf_bd m i0 m.length
      rw [← hl] at hcell hrow hnext hbad hpl hlb hp1
      have hpm := sumV_yes (part_mat HI.out.2.1.mat hp1 (by omega))
      replace hcell := hx1.cell_some hcell
      have hpk := fun w' (hw : Ext wr w') => spec_l5Part_any _ _ m l m.length w' (((HI.out.2.2.ext HR.out.2).ext hx1).ext hw) ((hrow.ext hx1).ext hw) (by omega) rfl HI.out.2.1.mat.row hlb
      have hsu := fun u w' (hu : ReadsRows w' u (partL m l)) => spec_SumOf_any u _ w' hu
      have hlc := hrow.len.2.1
      rw [hpm] at hsu
      obtain ⟨K, hK⟩ : ∃ K, K = l.length := ⟨_, rfl⟩
      obtain ⟨s, hs⟩ : ∃ s, s = sumM (partL m l) := ⟨_, rfl⟩
      rw [← hK] at hcell hpk hlc hpl hnext hbad
      rw [← hs] at hsu hnext hbad
      have HP := Lib.hid (And.intro hpk (And.intro hnext (And.intro hbad hsu)))
      clear hpk hnext hbad hsu hrow hlb hl hpe hh hi0 hkc hp hK hpm hs hp1
      obtain ⟨wq, rfl⟩ : ∃ wq : World, wq = wr := ⟨_, rfl⟩
      by_cases hsk : s = (K : Int)
      · have hne : (s != (K : Int)) = false := by simp [hsk]
        have HN := Lib.hid (HP.out.2.1 (decide_eq_true hsk))
        clear hsk
        go_wp2
        refine wp_region_inv (by kernel_rfl) (.known ?hx8_4_v0 :: .known ?hx8_4_v1 :: .known ?hx8_4_v2 :: .known ?hx8_4_v3 :: .known ?hx8_4_v4 :: .such (RowsJ (partL m l)) (RowsJ.ok _) :: .known (.int .i64 s) :: .known ?hx8_4_v7 :: .known ?hx8_4_v8 :: .known ?hx8_4_v9 :: .known ?hx8_4_v10 :: .known ?hx8_4_v11 :: .known ?hx8_4_v12 :: []) rfl (by kernel_rfl) ?hx8_4_s ?hx8_4_p
        case hx8_4_s =>
          intro vs
          refine ⟨fun w' hxw hj => ?_, fun w' hxw hj => ?_, fun w' hxw hj => ?_, fun w' hxw hj => ?_, fun w' hxw hj => ?_, fun w' hxw hj => ?_, fun w' hxw hj => ?_, fun w' hxw hj => ?_, fun w' hxw hj => ?_, fun w' hxw hj => ?_, fun w' hxw hj => ?_, fun w' hxw hj => ?_, fun w' hxw hj => ?_, trivial⟩
          · have hcell := Ext.cell_some hxw hcell
            clear hj
            go_simp
            try go_bits
            first | rfl | (rw [if_pos (by omega), if_pos (by omega)]; go_simp; rfl) | (rw [if_pos (by omega)]; go_simp; rfl) | skip
          · have hcell := Ext.cell_some hxw hcell
            clear hj
            go_simp
            try go_bits
            first | rfl | (rw [if_pos (by omega), if_pos (by omega)]; go_simp; rfl) | (rw [if_pos (by omega)]; go_simp; rfl) | skip
          · have hcell := Ext.cell_some hxw hcell
            clear hj
            go_simp
            try go_bits
            first | rfl | (rw [if_pos (by omega), if_pos (by omega)]; go_simp; rfl) | (rw [if_pos (by omega)]; go_simp; rfl) | skip
          · have hcell := Ext.cell_some hxw hcell
            clear hj
            go_simp
            try go_bits
            first | rfl | (rw [if_pos (by omega), if_pos (by omega)]; go_simp; rfl) | (rw [if_pos (by omega)]; go_simp; rfl) | skip
          · have hcell := Ext.cell_some hxw hcell
            clear hj
            go_simp
            try go_bits
            first | rfl | (rw [if_pos (by omega), if_pos (by omega)]; go_simp; rfl) | (rw [if_pos (by omega)]; go_simp; rfl) | skip
          · have hcell := Ext.cell_some hxw hcell
            clear hj
            go_simp
            try go_bits
            exact (HP.out.1 _ hxw).mono fun _ _ ⟨u, h1, h2, h3⟩ => ⟨u, h1, h3, h2.reads⟩
          · have hcell := Ext.cell_some hxw hcell
            have h5 := hj 5 (by kernel_rfl)
            clear hj
            go_simp
            try go_bits
            exact (HP.out.2.2.2 _ _ h5).mono fun _ _ ⟨h1, h2⟩ => ⟨h1, h2 ▸ Ext.refl _⟩
          · have hcell := Ext.cell_some hxw hcell
            clear hj
            go_simp
            try go_bits
            first | rfl | (rw [if_pos (by omega), if_pos (by omega)]; go_simp; rfl) | (rw [if_pos (by omega)]; go_simp; rfl) | skip
          · have hcell := Ext.cell_some hxw hcell
            clear hj
            go_simp
            try go_bits
            first | rfl | (rw [if_pos (by omega), if_pos (by omega)]; go_simp; rfl) | (rw [if_pos (by omega)]; go_simp; rfl) | skip
          · have hcell := Ext.cell_some hxw hcell
            clear hj
            go_simp
            try go_bits
            first | rfl | (rw [if_pos (by omega), if_pos (by omega)]; go_simp; rfl) | (rw [if_pos (by omega)]; go_simp; rfl) | skip
          · have hcell := Ext.cell_some hxw hcell
            clear hj
            go_simp
            try go_bits
            first | rfl | (rw [if_pos (by omega), if_pos (by omega)]; go_simp; rfl) | (rw [if_pos (by omega)]; go_simp; rfl) | skip
          · have hcell := Ext.cell_some hxw hcell
            clear hj
            go_simp
            try go_bits
            first | rfl | (rw [if_pos (by omega), if_pos (by omega)]; go_simp; rfl) | (rw [if_pos (by omega)]; go_simp; rfl) | skip
          · have hcell := Ext.cell_some hxw hcell
            clear hj
            go_simp
            try go_bits
            first | rfl | (rw [if_pos (by omega), if_pos (by omega)]; go_simp; rfl) | (rw [if_pos (by omega)]; go_simp; rfl) | skip
        case' hx8_4_p =>
          intro vs w8 hx8 hk
          have k5 : (RowsJ (partL m l)) (vs 5) w8 := hk 5 _ rfl
          clear hk
          replace hcell := Ext.cell_some hx8 hcell
          replace hx1 := Ext.trans hx1 hx8
          go_simp
          clear k5 hx8 hcell
          go_wp2
          go_roundw
          case rel => exact ⟨k + 1, by omega, by go_num, HN.out, hx1⟩
          case measure => simp [intOf]; omega
      · have hne : (s != (K : Int)) = true := by simpa using hsk
        have HN := Lib.hid (show lightR m = false from HP.out.2.2.1 (decide_eq_false hsk))
        clear hsk
        go_wp2
        refine wp_region_inv (by kernel_rfl) (.known ?hx8_5_v0 :: .known ?hx8_5_v1 :: .known ?hx8_5_v2 :: .known ?hx8_5_v3 :: .known ?hx8_5_v4 :: .such (RowsJ (partL m l)) (RowsJ.ok _) :: .known (.int .i64 s) :: .known ?hx8_5_v7 :: .known ?hx8_5_v8 :: .known ?hx8_5_v9 :: .known ?hx8_5_v10 :: .known ?hx8_5_v11 :: .known ?hx8_5_v12 :: []) rfl (by kernel_rfl) ?hx8_5_s ?hx8_5_p
        case hx8_5_s =>
          intro vs
          refine ⟨fun w' hxw hj => ?_, fun w' hxw hj => ?_, fun w' hxw hj => ?_, fun w' hxw hj => ?_, fun w' hxw hj => ?_, fun w' hxw hj => ?_, fun w' hxw hj => ?_, fun w' hxw hj => ?_, fun w' hxw hj => ?_, fun w' hxw hj => ?_, fun w' hxw hj => ?_, fun w' hxw hj => ?_, fun w' hxw hj => ?_, trivial⟩
          · have hcell := Ext.cell_some hxw hcell
            clear hj
            go_simp
            try go_bits
            first | rfl | (rw [if_pos (by omega), if_pos (by omega)]; go_simp; rfl) | (rw [if_pos (by omega)]; go_simp; rfl) | skip
          · have hcell := Ext.cell_some hxw hcell
            clear hj
            go_simp
            try go_bits
            first | rfl | (rw [if_pos (by omega), if_pos (by omega)]; go_simp; rfl) | (rw [if_pos (by omega)]; go_simp; rfl) | skip
          · have hcell := Ext.cell_some hxw hcell
            clear hj
            go_simp
            try go_bits
            first | rfl | (rw [if_pos (by omega), if_pos (by omega)]; go_simp; rfl) | (rw [if_pos (by omega)]; go_simp; rfl) | skip
          · have hcell := Ext.cell_some hxw hcell
            clear hj
            go_simp
            try go_bits
            first | rfl | (rw [if_pos (by omega), if_pos (by omega)]; go_simp; rfl) | (rw [if_pos (by omega)]; go_simp; rfl) | skip
          · have hcell := Ext.cell_some hxw hcell
            clear hj
            go_simp
            try go_bits
            first | rfl | (rw [if_pos (by omega), if_pos (by omega)]; go_simp; rfl) | (rw [if_pos (by omega)]; go_simp; rfl) | skip
          · have hcell := Ext.cell_some hxw hcell
            clear hj
            go_simp
            try go_bits
            exact (HP.out.1 _ hxw).mono fun _ _ ⟨u, h1, h2, h3⟩ => ⟨u, h1, h3, h2.reads⟩
          · have hcell := Ext.cell_some hxw hcell
            have h5 := hj 5 (by kernel_rfl)
            clear hj
            go_simp
            try go_bits
            exact (HP.out.2.2.2 _ _ h5).mono fun _ _ ⟨h1, h2⟩ => ⟨h1, h2 ▸ Ext.refl _⟩
          · have hcell := Ext.cell_some hxw hcell
            clear hj
            go_simp
            try go_bits
            first | rfl | (rw [if_pos (by omega), if_pos (by omega)]; go_simp; rfl) | (rw [if_pos (by omega)]; go_simp; rfl) | skip
          · have hcell := Ext.cell_some hxw hcell
            clear hj
            go_simp
            try go_bits
            first | rfl | (rw [if_pos (by omega), if_pos (by omega)]; go_simp; rfl) | (rw [if_pos (by omega)]; go_simp; rfl) | skip
          · have hcell := Ext.cell_some hxw hcell
            clear hj
            go_simp
            try go_bits
            first | rfl | (rw [if_pos (by omega), if_pos (by omega)]; go_simp; rfl) | (rw [if_pos (by omega)]; go_simp; rfl) | skip
          · have hcell := Ext.cell_some hxw hcell
            clear hj
            go_simp
            try go_bits
            first | rfl | (rw [if_pos (by omega), if_pos (by omega)]; go_simp; rfl) | (rw [if_pos (by omega)]; go_simp; rfl) | skip
          · have hcell := Ext.cell_some hxw hcell
            clear hj
            go_simp
            try go_bits
            first | rfl | (rw [if_pos (by omega), if_pos (by omega)]; go_simp; rfl) | (rw [if_pos (by omega)]; go_simp; rfl) | skip
          · have hcell := Ext.cell_some hxw hcell
            clear hj
            go_simp
            try go_bits
            first | rfl | (rw [if_pos (by omega), if_pos (by omega)]; go_simp; rfl) | (rw [if_pos (by omega)]; go_simp; rfl) | skip
        case' hx8_5_p =>
          intro vs w8 hx8 hk
          have k5 : (RowsJ (partL m l)) (vs 5) w8 := hk 5 _ rfl
          clear hk
          replace hcell := Ext.cell_some hx8 hcell
          replace hx1 := Ext.trans hx1 hx8
          go_simp
          clear k5 hx8 hcell
          go_wp2
          go_ret
          exact ⟨ret_bool HN.out.symm, Ext.trans HR.out.2 hx1⟩
    · have hkC : k = C := by omega
      rw [hkC, HC.out] at hp
      have HN := Lib.hid (show lightR m = true from all_done hp)
      clear hp
      subst hkC
      go_wp2
      go_ret
      exact ⟨ret_bool HN.out.symm, Ext.trans HR.out.2 hx1⟩

set_option maxHeartbeats 1000000 in
theorem spec_IsGrowthless_any (v : Value) (m : List (List Int)) (w : World) (h : ReadsRows w v m) :
    Calls Tryd.prog 43 #[v] w fun e w' => e = .returned (.bool (lightV m)) ∧ Ext w w' := by
  have hs := spec_IsSmall_any v m w h
  cases hsm : isSm m with
  | false =>
    rw [hsm] at hs
    have HI := Lib.hid (And.intro hs (lightV_no hsm))
    clear hs hsm
    go_enter Tryd.func43, Tryd.ntmps43
    go_wp2_with (go_at_call 22; with_reducible refine HI.out.1.mono ?_; rintro e w' ⟨rfl, rfl⟩)
    go_ret
    exact ⟨ret_bool HI.out.2.symm, Ext.refl _⟩
  | true =>
    rw [hsm] at hs
    have HI := Lib.hid (And.intro hs (And.intro ((lightV_yes hsm).trans (light_eq hsm)) (spec_l8Light_any v m w h hsm)))
    clear hs hsm
    go_enter Tryd.func43, Tryd.ntmps43
    go_wp2_with (first | (go_at_call 22; with_reducible refine HI.out.1.mono ?_; rintro e w' ⟨rfl, rfl⟩) | (go_at_call 78; with_reducible refine HI.out.2.2.mono ?_; rintro e w1 ⟨rfl, hx⟩))
    go_ret
    exact ⟨ret_bool HI.out.2.1.symm, hx⟩
end Go.Proofs.YtdngkfedkgiioaaDoor

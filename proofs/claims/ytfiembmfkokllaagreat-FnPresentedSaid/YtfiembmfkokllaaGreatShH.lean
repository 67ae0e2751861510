/- Contracts: the states and the language of a shift, by the reference. -/
import Derived.Test.YtfiembmfkokllaaGreatShG
namespace Go.Cm
theorem PairSt.sub {F ps out : List (List UInt8)} (h : PairSt F ps out) : out.length ≤ ps.length ∧ ∀ u ∈ out, u ∈ ps := by
  obtain ⟨k, rfl, _⟩ := h
  exact ⟨keepTo_length_le _ _ _, fun u hu => keepTo_mem hu⟩
end Go.Cm
namespace Go.Proofs.YtfiembmfkokllaaGreat
open Go.RowKit Go.Cm

def lenOf : Value → Nat
  | .slice _ n _ => n
  | _ => 0

set_option maxRecDepth 100000 in
set_option maxHeartbeats 4000000 in
theorem spec_l3Pairs_any (K : Nat) (v : Value) (F : List (List UInt8)) (w : World) (hK0 : 0 < K) (hK3 : K ≤ 3) (h : ReadsW w v F) (hF : ∀ f ∈ F, f.length ≤ 1048576) :
    Calls Tryz.prog 45 #[.agg #[.int .i64 K, v]] w fun e w' => ∃ z, e = .returned z ∧ Own w' w.heap.size 9 z (scells (statesL K F)) ∧ Ext w w' := by
  obtain ⟨pa, ca, rfl⟩ := h.slice
  have hx := Ext.alloc w (.cells #[.int .i64 K, .slice pa F.length ca] 26)
  have bo : Blk (w.alloc (.cells #[.int .i64 K, .slice pa F.length ca] 26)) w.heap.size #[.int .i64 K, .slice pa F.length ca] := by (repeat (first | (refine Blk.mk' ?_; (simp; done)) | apply Blk.old))
  have HS := Lib.hid (And.intro h hF)
  have HW := Lib.hid (show Calls Tryz.prog 80 #[.agg #[.int .i64 K, .slice pa F.length ca], .int .i64 2] (w.alloc (.cells #[.int .i64 K, .slice pa F.length ca] 26)) fun e w' => ∃ z, e = .returned z ∧ Own w' (w.alloc (.cells #[.int .i64 K, .slice pa F.length ca] 26)).heap.size 9 z (scells (avoidsN K F 2)) ∧ Ext (w.alloc (.cells #[.int .i64 K, .slice pa F.length ca] 26)) w' from
    spec_l3Words_any K 2 _ F _ hK0 hK3 (by omega) (h.ext hx) hF)
  clear h hF
  go_enter Tryz.func45, Tryz.ntmps45
  go_wp2_with fail
  with_reducible refine HW.out.mono ?_
  rintro e w1 ⟨z, rfl, hz, hx1⟩
  have bo1 := bo.ext hx1
  replace hz := hz.mono hx.size
  replace hx1 := hx.trans hx1
  clear bo hx HW
  obtain ⟨ps, hps⟩ : ∃ ps, ps = avoidsN K F 2 := ⟨_, rfl⟩
  have hst : statesL K F = statesOf F ps := by rw [hps]; rfl
  have hN9 : ps.length ≤ 9 := by
    rw [hps]
    have h1 := avoidsN_length K F 2
    have h2 : K ^ 2 ≤ 3 ^ 2 := Nat.pow_le_pow_left hK3 2
    omega
  have hlen : ∀ u ∈ ps, u.length = 2 := fun u hu => avoidsN_word (K := K) (F := F) (by rw [← hps]; exact hu)
  rw [← hps] at hz
  have HP := Lib.hid (And.intro hst (And.intro hN9 hlen))
  clear hps hst hN9 hlen
  go_wp2
  go_loopw [3] (fun z wr => ∃ out, PairSt F ps out ∧ Own wr w.heap.size 9 z (scells out) ∧ Ext w1 wr) (fun z _ => lenOf z)
  case atStart => exact ⟨ps, PairSt.start F ps, hz, Ext.refl _⟩
  case round =>
    clear hz
    obtain ⟨out, hpair, hown, hxr⟩ := hrel
    have hstep := hpair.step
    obtain ⟨hol, hom⟩ := hpair.sub
    have hrd := Own.readsW hown
    obtain ⟨pz, cz, rfl⟩ := hrd.slice
    obtain ⟨-, hlz, hcz⟩ := hrd.len
    obtain ⟨n, hn⟩ : ∃ n, n = out.length := ⟨_, rfl⟩
    rw [← hn] at hrd hlz hown ⊢
    have hn9 : n ≤ 9 := by have := HP.out.2.1; omega
    have HO := Lib.hid (And.intro hrd (And.intro hn (And.intro hstep (And.intro (fun u hu => HP.out.2.2 u (hom u hu)) hown))))
    clear hstep hpair hol hom hrd hn hown
    obtain ⟨wo, rfl⟩ : ∃ wo : World, wo = wr := ⟨_, rfl⟩
    have hB0 : Own (wo.alloc (.cells #[] 9)) wo.heap.size 9 (.slice (some ⟨wo.heap.size, 0, none⟩) 0 0) [] := Own.lit wo 9 [] (by simp)
    have hxo := Ext.alloc wo (.cells #[] 9)
    go_wp2
    go_loopw [4, 5] (fun v i wm => ∃ j : Nat, j ≤ n ∧ i = .int .i64 j ∧ Own wm wo.heap.size 9 v (scells ((out.take j).filter (goesB F out))) ∧ Ext wo wm) (fun _ i _ => n - (intOf i).toNat)
    case atStart => exact ⟨0, by omega, rfl, hB0, hxo⟩
    case round =>
      clear hB0 hxo
      obtain ⟨j, hj, rfl, hnx, hxm⟩ := hrel
      have hxa := hxr.trans hxm
      by_cases hlt : j < n
      · have hjm : j < out.length := by rw [← HO.out.2.1]; exact hlt
        obtain ⟨b, o, rfl, hcell⟩ := (HO.out.1.ext hxm).at j hjm
        have hmem : out.getD j [] ∈ out := by
          rw [List.getD_eq_getElem?_getD, List.getElem?_eq_getElem hjm]
          exact List.getElem_mem hjm
        have htk : out.take (j + 1) = out.take j ++ [out.getD j []] := by
          rw [List.take_succ_eq_append_getElem hjm, List.getD_eq_getElem?_getD, List.getElem?_eq_getElem hjm]
          rfl
        have hle : ((out.take j).filter (goesB F out)).length ≤ j := Nat.le_trans (List.length_filter_le _ _) (by rw [List.length_take]; omega)
        obtain ⟨x, hx'⟩ : ∃ x, x = out.getD j [] := ⟨_, rfl⟩
        rw [← hx'] at hcell hmem htk
        have hxl := HO.out.2.2.2.1 x hmem
        obtain ⟨g1, hg1⟩ : ∃ g, g = out.any fun v => adjL F x v := ⟨_, rfl⟩
        obtain ⟨g2, hg2⟩ : ∃ g, g = out.any fun v => adjL F v x := ⟨_, rfl⟩
        have d1 := fun w h hz => spec_l3Goes_behind K (.slice pa F.length ca) (.slice (some ⟨b, o, none⟩) n cz) F out x w h hz HS.out.2 HO.out.2.2.2.1 hxl
        have d2 := fun w h hz => spec_l3Goes_ahead K (.slice pa F.length ca) (.slice (some ⟨b, o, none⟩) n cz) F out x w h hz HS.out.2 HO.out.2.2.2.1 hxl
        rw [← hg1] at d1
        rw [← hg2] at d2
        have hgo : goesB F out x = (g1 && g2) := by unfold goesB; rw [hg1, hg2]
        have HX := Lib.hid (And.intro d1 (And.intro d2 (And.intro hgo (And.intro htk hle))))
        clear d1 d2 hgo htk hle hg1 hg2 hxl hmem hx' hjm
        have c0 := (bo1.ext hxa).cell 0 (.int .i64 K) rfl
        have c1 := (bo1.ext hxa).cell 1 (.slice pa F.length ca) rfl
        have hxw := hx1.trans hxa
        have HW := Lib.hid (And.intro hxa hxw)
        clear hxw hxa
        cases g1
        · go_wp2
          refine wp_region_inv (by kernel_rfl) (.known ?hx6_31_v0 :: .known ?hx6_31_v1 :: .known ?hx6_31_v2 :: .known ?hx6_31_v3 :: .known ?hx6_31_v4 :: .known ?hx6_31_v5 :: .known (.bool false) :: .known ?hx6_31_v7 :: .known ?hx6_31_v8 :: .known ?hx6_31_v9 :: .known ?hx6_31_v10 :: .known ?hx6_31_v11 :: .known ?hx6_31_v12 :: .known ?hx6_31_v13 :: .known ?hx6_31_v14 :: .known ?hx6_31_v15 :: []) rfl (by kernel_rfl) ?hx6_31_s ?hx6_31_p
          case hx6_31_s =>
            intro vs
            refine ⟨fun w' hxw hj => ?_, fun w' hxw hj => ?_, fun w' hxw hj => ?_, fun w' hxw hj => ?_, fun w' hxw hj => ?_, fun w' hxw hj => ?_, fun w' hxw hj => ?_, fun w' hxw hj => ?_, fun w' hxw hj => ?_, fun w' hxw hj => ?_, fun w' hxw hj => ?_, fun w' hxw hj => ?_, fun w' hxw hj => ?_, fun w' hxw hj => ?_, fun w' hxw hj => ?_, fun w' hxw hj => ?_, trivial⟩
            · have c0 := Ext.cell_some hxw c0
              have c1 := Ext.cell_some hxw c1
              have hcell := Ext.cell_some hxw hcell
              clear hj
              go_simp
              try go_bits
              first | rfl | (rw [if_pos (by omega), if_pos (by omega)]; go_simp; rfl) | (rw [if_pos (by omega)]; go_simp; rfl) | skip
            · have c0 := Ext.cell_some hxw c0
              have c1 := Ext.cell_some hxw c1
              have hcell := Ext.cell_some hxw hcell
              clear hj
              go_simp
              try go_bits
              first | rfl | (rw [if_pos (by omega), if_pos (by omega)]; go_simp; rfl) | (rw [if_pos (by omega)]; go_simp; rfl) | skip
            · have c0 := Ext.cell_some hxw c0
              have c1 := Ext.cell_some hxw c1
              have hcell := Ext.cell_some hxw hcell
              clear hj
              go_simp
              try go_bits
              first | rfl | (rw [if_pos (by omega), if_pos (by omega)]; go_simp; rfl) | (rw [if_pos (by omega)]; go_simp; rfl) | skip
            · have c0 := Ext.cell_some hxw c0
              have c1 := Ext.cell_some hxw c1
              have hcell := Ext.cell_some hxw hcell
              clear hj
              go_simp
              try go_bits
              first | rfl | (rw [if_pos (by omega), if_pos (by omega)]; go_simp; rfl) | (rw [if_pos (by omega)]; go_simp; rfl) | skip
            · have c0 := Ext.cell_some hxw c0
              have c1 := Ext.cell_some hxw c1
              have hcell := Ext.cell_some hxw hcell
              clear hj
              go_simp
              try go_bits
              first | rfl | (rw [if_pos (by omega), if_pos (by omega)]; go_simp; rfl) | (rw [if_pos (by omega)]; go_simp; rfl) | skip
            · have c0 := Ext.cell_some hxw c0
              have c1 := Ext.cell_some hxw c1
              have hcell := Ext.cell_some hxw hcell
              clear hj
              go_simp
              try go_bits
              first | rfl | (rw [if_pos (by omega), if_pos (by omega)]; go_simp; rfl) | (rw [if_pos (by omega)]; go_simp; rfl) | skip
            · have c0 := Ext.cell_some hxw c0
              have c1 := Ext.cell_some hxw c1
              have hcell := Ext.cell_some hxw hcell
              clear hj
              go_simp
              try go_bits
              exact HX.out.1 _ ((HS.out.1.ext HW.out.2).ext hxw) ((HO.out.1.ext hxm).ext hxw)
            · have c0 := Ext.cell_some hxw c0
              have c1 := Ext.cell_some hxw c1
              have hcell := Ext.cell_some hxw hcell
              clear hj
              go_simp
              try go_bits
              first | rfl | (rw [if_pos (by omega), if_pos (by omega)]; go_simp; rfl) | (rw [if_pos (by omega)]; go_simp; rfl) | skip
            · have c0 := Ext.cell_some hxw c0
              have c1 := Ext.cell_some hxw c1
              have hcell := Ext.cell_some hxw hcell
              clear hj
              go_simp
              try go_bits
              first | rfl | (rw [if_pos (by omega), if_pos (by omega)]; go_simp; rfl) | (rw [if_pos (by omega)]; go_simp; rfl) | skip
            · have c0 := Ext.cell_some hxw c0
              have c1 := Ext.cell_some hxw c1
              have hcell := Ext.cell_some hxw hcell
              clear hj
              go_simp
              try go_bits
              first | rfl | (rw [if_pos (by omega), if_pos (by omega)]; go_simp; rfl) | (rw [if_pos (by omega)]; go_simp; rfl) | skip
            · have c0 := Ext.cell_some hxw c0
              have c1 := Ext.cell_some hxw c1
              have hcell := Ext.cell_some hxw hcell
              clear hj
              go_simp
              try go_bits
              first | rfl | (rw [if_pos (by omega), if_pos (by omega)]; go_simp; rfl) | (rw [if_pos (by omega)]; go_simp; rfl) | skip
            · have c0 := Ext.cell_some hxw c0
              have c1 := Ext.cell_some hxw c1
              have hcell := Ext.cell_some hxw hcell
              clear hj
              go_simp
              try go_bits
              first | rfl | (rw [if_pos (by omega), if_pos (by omega)]; go_simp; rfl) | (rw [if_pos (by omega)]; go_simp; rfl) | skip
            · have c0 := Ext.cell_some hxw c0
              have c1 := Ext.cell_some hxw c1
              have hcell := Ext.cell_some hxw hcell
              clear hj
              go_simp
              try go_bits
              first | rfl | (rw [if_pos (by omega), if_pos (by omega)]; go_simp; rfl) | (rw [if_pos (by omega)]; go_simp; rfl) | skip
            · have c0 := Ext.cell_some hxw c0
              have c1 := Ext.cell_some hxw c1
              have hcell := Ext.cell_some hxw hcell
              clear hj
              go_simp
              try go_bits
              first | rfl | (rw [if_pos (by omega), if_pos (by omega)]; go_simp; rfl) | (rw [if_pos (by omega)]; go_simp; rfl) | skip
            · have c0 := Ext.cell_some hxw c0
              have c1 := Ext.cell_some hxw c1
              have hcell := Ext.cell_some hxw hcell
              clear hj
              go_simp
              try go_bits
              first | rfl | (rw [if_pos (by omega), if_pos (by omega)]; go_simp; rfl) | (rw [if_pos (by omega)]; go_simp; rfl) | skip
            · have c0 := Ext.cell_some hxw c0
              have c1 := Ext.cell_some hxw c1
              have hcell := Ext.cell_some hxw hcell
              clear hj
              go_simp
              try go_bits
              first | rfl | (rw [if_pos (by omega), if_pos (by omega)]; go_simp; rfl) | (rw [if_pos (by omega)]; go_simp; rfl) | skip
          case' hx6_31_p =>
            intro vs w6 hx6 hk
            clear hk
            replace c0 := Ext.cell_some hx6 c0
            replace c1 := Ext.cell_some hx6 c1
            replace hcell := Ext.cell_some hx6 hcell
            replace hnx := Own.ext hnx hx6
            replace hxm := Ext.trans hxm hx6
            go_simp
            clear hx6
            have HF := Lib.hid (show (out.take (j + 1)).filter (goesB F out) = (out.take j).filter (goesB F out) by rw [HX.out.2.2.2.1, List.filter_append, List.filter_cons_of_neg (by rw [HX.out.2.2.1]; simp)]; exact List.append_nil _)
            clear c0 c1 hcell
            go_wp2
            go_roundw
            case rel => exact ⟨j + 1, by omega, by go_num, by rw [HF.out]; exact hnx, hxm⟩
            case measure => simp [intOf]; omega
        cases g2
        · go_wp2
          refine wp_region_inv (by kernel_rfl) (.known ?hx6_32_v0 :: .known ?hx6_32_v1 :: .known ?hx6_32_v2 :: .known ?hx6_32_v3 :: .known ?hx6_32_v4 :: .known ?hx6_32_v5 :: .known (.bool true) :: .known ?hx6_32_v7 :: .known ?hx6_32_v8 :: .known ?hx6_32_v9 :: .known ?hx6_32_v10 :: .known ?hx6_32_v11 :: .known ?hx6_32_v12 :: .known ?hx6_32_v13 :: .known (.bool false) :: .known ?hx6_32_v15 :: []) rfl (by kernel_rfl) ?hx6_32_s ?hx6_32_p
          case hx6_32_s =>
            intro vs
            refine ⟨fun w' hxw hj => ?_, fun w' hxw hj => ?_, fun w' hxw hj => ?_, fun w' hxw hj => ?_, fun w' hxw hj => ?_, fun w' hxw hj => ?_, fun w' hxw hj => ?_, fun w' hxw hj => ?_, fun w' hxw hj => ?_, fun w' hxw hj => ?_, fun w' hxw hj => ?_, fun w' hxw hj => ?_, fun w' hxw hj => ?_, fun w' hxw hj => ?_, fun w' hxw hj => ?_, fun w' hxw hj => ?_, trivial⟩
            · have c0 := Ext.cell_some hxw c0
              have c1 := Ext.cell_some hxw c1
              have hcell := Ext.cell_some hxw hcell
              clear hj
              go_simp
              try go_bits
              first | rfl | (rw [if_pos (by omega), if_pos (by omega)]; go_simp; rfl) | (rw [if_pos (by omega)]; go_simp; rfl) | skip
            · have c0 := Ext.cell_some hxw c0
              have c1 := Ext.cell_some hxw c1
              have hcell := Ext.cell_some hxw hcell
              clear hj
              go_simp
              try go_bits
              first | rfl | (rw [if_pos (by omega), if_pos (by omega)]; go_simp; rfl) | (rw [if_pos (by omega)]; go_simp; rfl) | skip
            · have c0 := Ext.cell_some hxw c0
              have c1 := Ext.cell_some hxw c1
              have hcell := Ext.cell_some hxw hcell
              clear hj
              go_simp
              try go_bits
              first | rfl | (rw [if_pos (by omega), if_pos (by omega)]; go_simp; rfl) | (rw [if_pos (by omega)]; go_simp; rfl) | skip
            · have c0 := Ext.cell_some hxw c0
              have c1 := Ext.cell_some hxw c1
              have hcell := Ext.cell_some hxw hcell
              clear hj
              go_simp
              try go_bits
              first | rfl | (rw [if_pos (by omega), if_pos (by omega)]; go_simp; rfl) | (rw [if_pos (by omega)]; go_simp; rfl) | skip
            · have c0 := Ext.cell_some hxw c0
              have c1 := Ext.cell_some hxw c1
              have hcell := Ext.cell_some hxw hcell
              clear hj
              go_simp
              try go_bits
              first | rfl | (rw [if_pos (by omega), if_pos (by omega)]; go_simp; rfl) | (rw [if_pos (by omega)]; go_simp; rfl) | skip
            · have c0 := Ext.cell_some hxw c0
              have c1 := Ext.cell_some hxw c1
              have hcell := Ext.cell_some hxw hcell
              clear hj
              go_simp
              try go_bits
              first | rfl | (rw [if_pos (by omega), if_pos (by omega)]; go_simp; rfl) | (rw [if_pos (by omega)]; go_simp; rfl) | skip
            · have c0 := Ext.cell_some hxw c0
              have c1 := Ext.cell_some hxw c1
              have hcell := Ext.cell_some hxw hcell
              clear hj
              go_simp
              try go_bits
              exact HX.out.1 _ ((HS.out.1.ext HW.out.2).ext hxw) ((HO.out.1.ext hxm).ext hxw)
            · have c0 := Ext.cell_some hxw c0
              have c1 := Ext.cell_some hxw c1
              have hcell := Ext.cell_some hxw hcell
              clear hj
              go_simp
              try go_bits
              first | rfl | (rw [if_pos (by omega), if_pos (by omega)]; go_simp; rfl) | (rw [if_pos (by omega)]; go_simp; rfl) | skip
            · have c0 := Ext.cell_some hxw c0
              have c1 := Ext.cell_some hxw c1
              have hcell := Ext.cell_some hxw hcell
              clear hj
              go_simp
              try go_bits
              first | rfl | (rw [if_pos (by omega), if_pos (by omega)]; go_simp; rfl) | (rw [if_pos (by omega)]; go_simp; rfl) | skip
            · have c0 := Ext.cell_some hxw c0
              have c1 := Ext.cell_some hxw c1
              have hcell := Ext.cell_some hxw hcell
              clear hj
              go_simp
              try go_bits
              first | rfl | (rw [if_pos (by omega), if_pos (by omega)]; go_simp; rfl) | (rw [if_pos (by omega)]; go_simp; rfl) | skip
            · have c0 := Ext.cell_some hxw c0
              have c1 := Ext.cell_some hxw c1
              have hcell := Ext.cell_some hxw hcell
              clear hj
              go_simp
              try go_bits
              first | rfl | (rw [if_pos (by omega), if_pos (by omega)]; go_simp; rfl) | (rw [if_pos (by omega)]; go_simp; rfl) | skip
            · have c0 := Ext.cell_some hxw c0
              have c1 := Ext.cell_some hxw c1
              have hcell := Ext.cell_some hxw hcell
              clear hj
              go_simp
              try go_bits
              first | rfl | (rw [if_pos (by omega), if_pos (by omega)]; go_simp; rfl) | (rw [if_pos (by omega)]; go_simp; rfl) | skip
            · have c0 := Ext.cell_some hxw c0
              have c1 := Ext.cell_some hxw c1
              have hcell := Ext.cell_some hxw hcell
              clear hj
              go_simp
              try go_bits
              first | rfl | (rw [if_pos (by omega), if_pos (by omega)]; go_simp; rfl) | (rw [if_pos (by omega)]; go_simp; rfl) | skip
            · have c0 := Ext.cell_some hxw c0
              have c1 := Ext.cell_some hxw c1
              have hcell := Ext.cell_some hxw hcell
              clear hj
              go_simp
              try go_bits
              first | rfl | (rw [if_pos (by omega), if_pos (by omega)]; go_simp; rfl) | (rw [if_pos (by omega)]; go_simp; rfl) | skip
            · have c0 := Ext.cell_some hxw c0
              have c1 := Ext.cell_some hxw c1
              have hcell := Ext.cell_some hxw hcell
              clear hj
              go_simp
              try go_bits
              exact HX.out.2.1 _ ((HS.out.1.ext HW.out.2).ext hxw) ((HO.out.1.ext hxm).ext hxw)
            · have c0 := Ext.cell_some hxw c0
              have c1 := Ext.cell_some hxw c1
              have hcell := Ext.cell_some hxw hcell
              clear hj
              go_simp
              try go_bits
              first | rfl | (rw [if_pos (by omega), if_pos (by omega)]; go_simp; rfl) | (rw [if_pos (by omega)]; go_simp; rfl) | skip
          case' hx6_32_p =>
            intro vs w6 hx6 hk
            clear hk
            replace c0 := Ext.cell_some hx6 c0
            replace c1 := Ext.cell_some hx6 c1
            replace hcell := Ext.cell_some hx6 hcell
            replace hnx := Own.ext hnx hx6
            replace hxm := Ext.trans hxm hx6
            go_simp
            clear hx6
            have HF := Lib.hid (show (out.take (j + 1)).filter (goesB F out) = (out.take j).filter (goesB F out) by rw [HX.out.2.2.2.1, List.filter_append, List.filter_cons_of_neg (by rw [HX.out.2.2.1]; simp)]; exact List.append_nil _)
            clear c0 c1 hcell
            go_wp2
            go_roundw
            case rel => exact ⟨j + 1, by omega, by go_num, by rw [HF.out]; exact hnx, hxm⟩
            case measure => simp [intOf]; omega
        · have HF := Lib.hid (show (out.take (j + 1)).filter (goesB F out) = (out.take j).filter (goesB F out) ++ [x] by rw [HX.out.2.2.2.1, List.filter_append, List.filter_cons_of_pos (by rw [HX.out.2.2.1]; rfl)]; rfl)
          have hle := HX.out.2.2.2.2
          have hl1 : (scells ((out.take j).filter (goesB F out))).length + 1 ≤ maxLen := by rw [scells_length]; unfold maxLen; omega
          have hl2 : ((scells ((out.take j).filter (goesB F out))).length + 1) * 16 ≤ 140737488355328 := by rw [scells_length]; omega
          clear hle
          go_wp2
          refine wp_region_inv (by kernel_rfl) (.known ?hx6_33_v0 :: .known ?hx6_33_v1 :: .known ?hx6_33_v2 :: .known ?hx6_33_v3 :: .known ?hx6_33_v4 :: .known ?hx6_33_v5 :: .known (.bool true) :: .known ?hx6_33_v7 :: .known ?hx6_33_v8 :: .known ?hx6_33_v9 :: .known ?hx6_33_v10 :: .known ?hx6_33_v11 :: .known ?hx6_33_v12 :: .known ?hx6_33_v13 :: .known (.bool true) :: .known ?hx6_33_v15 :: []) rfl (by kernel_rfl) ?hx6_33_s ?hx6_33_p
          case hx6_33_s =>
            intro vs
            refine ⟨fun w' hxw hj => ?_, fun w' hxw hj => ?_, fun w' hxw hj => ?_, fun w' hxw hj => ?_, fun w' hxw hj => ?_, fun w' hxw hj => ?_, fun w' hxw hj => ?_, fun w' hxw hj => ?_, fun w' hxw hj => ?_, fun w' hxw hj => ?_, fun w' hxw hj => ?_, fun w' hxw hj => ?_, fun w' hxw hj => ?_, fun w' hxw hj => ?_, fun w' hxw hj => ?_, fun w' hxw hj => ?_, trivial⟩
            · have c0 := Ext.cell_some hxw c0
              have c1 := Ext.cell_some hxw c1
              have hcell := Ext.cell_some hxw hcell
              clear hj
              go_simp
              try go_bits
              first | rfl | (rw [if_pos (by omega), if_pos (by omega)]; go_simp; rfl) | (rw [if_pos (by omega)]; go_simp; rfl) | skip
            · have c0 := Ext.cell_some hxw c0
              have c1 := Ext.cell_some hxw c1
              have hcell := Ext.cell_some hxw hcell
              clear hj
              go_simp
              try go_bits
              first | rfl | (rw [if_pos (by omega), if_pos (by omega)]; go_simp; rfl) | (rw [if_pos (by omega)]; go_simp; rfl) | skip
            · have c0 := Ext.cell_some hxw c0
              have c1 := Ext.cell_some hxw c1
              have hcell := Ext.cell_some hxw hcell
              clear hj
              go_simp
              try go_bits
              first | rfl | (rw [if_pos (by omega), if_pos (by omega)]; go_simp; rfl) | (rw [if_pos (by omega)]; go_simp; rfl) | skip
            · have c0 := Ext.cell_some hxw c0
              have c1 := Ext.cell_some hxw c1
              have hcell := Ext.cell_some hxw hcell
              clear hj
              go_simp
              try go_bits
              first | rfl | (rw [if_pos (by omega), if_pos (by omega)]; go_simp; rfl) | (rw [if_pos (by omega)]; go_simp; rfl) | skip
            · have c0 := Ext.cell_some hxw c0
              have c1 := Ext.cell_some hxw c1
              have hcell := Ext.cell_some hxw hcell
              clear hj
              go_simp
              try go_bits
              first | rfl | (rw [if_pos (by omega), if_pos (by omega)]; go_simp; rfl) | (rw [if_pos (by omega)]; go_simp; rfl) | skip
            · have c0 := Ext.cell_some hxw c0
              have c1 := Ext.cell_some hxw c1
              have hcell := Ext.cell_some hxw hcell
              clear hj
              go_simp
              try go_bits
              first | rfl | (rw [if_pos (by omega), if_pos (by omega)]; go_simp; rfl) | (rw [if_pos (by omega)]; go_simp; rfl) | skip
            · have c0 := Ext.cell_some hxw c0
              have c1 := Ext.cell_some hxw c1
              have hcell := Ext.cell_some hxw hcell
              clear hj
              go_simp
              try go_bits
              exact HX.out.1 _ ((HS.out.1.ext HW.out.2).ext hxw) ((HO.out.1.ext hxm).ext hxw)
            · have c0 := Ext.cell_some hxw c0
              have c1 := Ext.cell_some hxw c1
              have hcell := Ext.cell_some hxw hcell
              clear hj
              go_simp
              try go_bits
              first | rfl | (rw [if_pos (by omega), if_pos (by omega)]; go_simp; rfl) | (rw [if_pos (by omega)]; go_simp; rfl) | skip
            · have c0 := Ext.cell_some hxw c0
              have c1 := Ext.cell_some hxw c1
              have hcell := Ext.cell_some hxw hcell
              clear hj
              go_simp
              try go_bits
              first | rfl | (rw [if_pos (by omega), if_pos (by omega)]; go_simp; rfl) | (rw [if_pos (by omega)]; go_simp; rfl) | skip
            · have c0 := Ext.cell_some hxw c0
              have c1 := Ext.cell_some hxw c1
              have hcell := Ext.cell_some hxw hcell
              clear hj
              go_simp
              try go_bits
              first | rfl | (rw [if_pos (by omega), if_pos (by omega)]; go_simp; rfl) | (rw [if_pos (by omega)]; go_simp; rfl) | skip
            · have c0 := Ext.cell_some hxw c0
              have c1 := Ext.cell_some hxw c1
              have hcell := Ext.cell_some hxw hcell
              clear hj
              go_simp
              try go_bits
              first | rfl | (rw [if_pos (by omega), if_pos (by omega)]; go_simp; rfl) | (rw [if_pos (by omega)]; go_simp; rfl) | skip
            · have c0 := Ext.cell_some hxw c0
              have c1 := Ext.cell_some hxw c1
              have hcell := Ext.cell_some hxw hcell
              clear hj
              go_simp
              try go_bits
              first | rfl | (rw [if_pos (by omega), if_pos (by omega)]; go_simp; rfl) | (rw [if_pos (by omega)]; go_simp; rfl) | skip
            · have c0 := Ext.cell_some hxw c0
              have c1 := Ext.cell_some hxw c1
              have hcell := Ext.cell_some hxw hcell
              clear hj
              go_simp
              try go_bits
              first | rfl | (rw [if_pos (by omega), if_pos (by omega)]; go_simp; rfl) | (rw [if_pos (by omega)]; go_simp; rfl) | skip
            · have c0 := Ext.cell_some hxw c0
              have c1 := Ext.cell_some hxw c1
              have hcell := Ext.cell_some hxw hcell
              clear hj
              go_simp
              try go_bits
              first | rfl | (rw [if_pos (by omega), if_pos (by omega)]; go_simp; rfl) | (rw [if_pos (by omega)]; go_simp; rfl) | skip
            · have c0 := Ext.cell_some hxw c0
              have c1 := Ext.cell_some hxw c1
              have hcell := Ext.cell_some hxw hcell
              clear hj
              go_simp
              try go_bits
              exact HX.out.2.1 _ ((HS.out.1.ext HW.out.2).ext hxw) ((HO.out.1.ext hxm).ext hxw)
            · have c0 := Ext.cell_some hxw c0
              have c1 := Ext.cell_some hxw c1
              have hcell := Ext.cell_some hxw hcell
              clear hj
              go_simp
              try go_bits
              first | rfl | (rw [if_pos (by omega), if_pos (by omega)]; go_simp; rfl) | (rw [if_pos (by omega)]; go_simp; rfl) | skip
          case' hx6_33_p =>
            intro vs w6 hx6 hk
            clear hk
            replace c0 := Ext.cell_some hx6 c0
            replace c1 := Ext.cell_some hx6 c1
            replace hcell := Ext.cell_some hx6 hcell
            replace hnx := Own.ext hnx hx6
            replace hxm := Ext.trans hxm hx6
            go_simp
            clear hx6 c0 c1
            go_wp2_with (at_builtin; refine wpList_append_one rfl (.tmp 31) (.tmp 36) 24 rfl 9 _ _ Tryz.underlying24 infoStr rfl wo.heap.size _ _ rfl (hnx.ext (Ext.alloc _ _)) w6.heap.size _ rfl (by simp; rfl) rfl hl1 hl2 wo rfl (hxm.trans (Ext.alloc _ _)) ?_; intro v' w9 hown9 hx9 hmv)
            go_roundw
            case rel => exact ⟨j + 1, by omega, by go_num, by rw [HF.out]; simpa [scells] using hown9, hx9⟩
            case measure => simp [intOf]; omega
      · have hjn : j = n := by omega
        have htk : out.take j = out := List.take_of_length_le (by rw [hjn, HO.out.2.1]; exact Nat.le_refl _)
        rw [htk] at hnx
        obtain ⟨pq, cq, rfl⟩ := (Own.readsW hnx).slice
        obtain ⟨m, hm⟩ : ∃ m, m = (out.filter (goesB F out)).length := ⟨_, rfl⟩
        rw [← hm] at hnx ⊢
        have hnx' := hnx.mono (hx1.trans hxr).size
        have hownw := HO.out.2.2.2.2.ext hxm
        have hs := HO.out.2.2.1
        rw [← hm, ← HO.out.2.1] at hs
        obtain ⟨hs1, hs2, hs3⟩ := hs
        by_cases he : m = n
        · have HF := Lib.hid (show out = statesL K F by rw [HP.out.1]; exact hs2 he)
          have hb : ((m : Int) == (n : Int)) = true := by simp; omega
          clear hs2 hs3 hm htk he hnx hnx'
          have hxw := (hx1.trans hxa)
          go_wp2
          go_ret
          exact ⟨_, rfl, by rw [← HF.out]; exact hownw, hxw⟩
        · have HF := Lib.hid (hs3 he)
          have hb : ((m : Int) == (n : Int)) = false := by simp; omega
          have hmn : m < n := by omega
          clear hs2 hs3 hm htk he hnx hownw
          go_wp2
          go_roundw
          case rel => exact ⟨_, HF.out, hnx', hxa⟩
          case measure => simp [lenOf]; omega
end Go.Proofs.YtfiembmfkokllaaGreat

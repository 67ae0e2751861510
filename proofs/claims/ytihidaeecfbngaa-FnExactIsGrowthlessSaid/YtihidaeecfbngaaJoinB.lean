/- Contracts: two graphs joined, by the reference. -/
import Derived.Test.YtihidaeecfbngaaJoinA
namespace Go.Proofs.Ytihidaeecfbngaa
open Go.RowKit Go.Mx

theorem spec_nil_rows (w : World) : ReadsRows (w.alloc (.cells #[] 22)) (.slice (some ⟨w.heap.size, 0, none⟩) 0 0) [] := ReadsRows.nil _ _ _ rfl

set_option maxRecDepth 100000 in
set_option maxHeartbeats 4000000 in
theorem spec_JoinGraphs_any (v v' : Value) (a b : List (List Int)) (w : World) (h : ReadsRows w v a) (h' : ReadsRows w v' b) :
    Calls Try.prog 39 #[v, v'] w fun e w' => ∃ u, e = .returned (.tuple #[u, .bool (joinO a b).isSome]) ∧ ReadsRows w' u ((joinO a b).getD []) ∧ Ext w w' := by
  have ha := spec_IsMatrix_any v a w h
  have hb := spec_IsMatrix_any v' b w h'
  cases hma : isMat a with
  | false =>
    rw [hma] at ha
    have HI := Lib.hid (And.intro ha (joinO_no (a := a) (b := b) (by rw [hma]; rfl)))
    clear ha hb hma
    go_enter Try.func39, Try.ntmps39
    go_wp2_with (go_at_call 70; with_reducible refine HI.out.1.mono ?_; rintro e w' ⟨rfl, rfl⟩)
    go_ret2
    exact ⟨_, by rw [HI.out.2]; rfl, by rw [HI.out.2]; exact spec_nil_rows w, Ext.alloc _ _⟩
  | true => cases hmb : isMat b with
  | false =>
    rw [hma] at ha
    rw [hmb] at hb
    have HI := Lib.hid (And.intro ha (And.intro hb (joinO_no (a := a) (b := b) (by rw [hmb]; simp))))
    clear ha hb hma hmb
    go_enter Try.func39, Try.ntmps39
    go_wp2_with (first | (go_at_call 70; with_reducible refine HI.out.1.mono ?_; rintro e w' ⟨rfl, rfl⟩) | (go_at_call 70; with_reducible refine HI.out.2.1.mono ?_; rintro e w' ⟨rfl, rfl⟩))
    go_ret2
    exact ⟨_, by rw [HI.out.2.2]; rfl, by rw [HI.out.2.2]; exact spec_nil_rows w, Ext.alloc _ _⟩
  | true =>
    rw [hma] at ha
    rw [hmb] at hb
    have hMa := isMat_yes hma
    have hMb := isMat_yes hmb
    have hjo := joinO_yes (a := a) (b := b) (by rw [hma, hmb]; rfl)
    have hjl := joinO_long (a := a) (b := b)
    obtain ⟨pa, ca, rfl⟩ := h.slice
    obtain ⟨pb, cb, rfl⟩ := h'.slice
    obtain ⟨-, hla1, hla2⟩ := h.len
    obtain ⟨-, hlb1, hlb2⟩ := h'.len
    have hz0 : tabF (a.length + b.length) (a.length + b.length) (fun _ _ => 0) = tabF (a.length + b.length) (a.length + b.length) (maskF (doneB 0 0) (joinF a b)) := (fill_zero (fun _ _ h _ => by omega) (fun _ h => by omega)).symm
    have hfull : tabF (a.length + b.length) (a.length + b.length) (maskF (doneB (a.length + b.length) 0) (joinF a b)) = joinM a b := fill_all (Nat.le_refl _) 0
    have hra : ∀ i, i < a.length → tabF (a.length + b.length) (a.length + b.length) (maskF (doneB i a.length) (joinF a b)) = tabF (a.length + b.length) (a.length + b.length) (maskF (doneB (i + 1) 0) (joinF a b)) := fun i hi => fill_row (fun q h1 _ => by unfold joinF; rw [if_pos hi, if_neg (by omega)]) (fun q h => by omega)
    have hrb : ∀ i, i < b.length → tabF (a.length + b.length) (a.length + b.length) (maskF (doneB (a.length + i) (a.length + b.length)) (joinF a b)) = tabF (a.length + b.length) (a.length + b.length) (maskF (doneB (a.length + (i + 1)) 0) (joinF a b)) := fun i hi => fill_row (fun q h1 h2 => by omega) (fun q h => by omega)
    have hrs : ∀ i, i < b.length → tabF (a.length + b.length) (a.length + b.length) (maskF (doneB (a.length + i) 0) (joinF a b)) = tabF (a.length + b.length) (a.length + b.length) (maskF (doneB (a.length + i) (a.length + 0)) (joinF a b)) := fun i hi => fill_skip (fun q h => by unfold joinF; rw [if_neg (by omega), if_pos (by omega)])
    have hva : ∀ i j, i < a.length → j < a.length → (a.getD i []).getD j 0 = joinF a b i j := fun i j hi hj => by unfold joinF; rw [if_pos hi, if_pos hj]; rfl
    have hvb : ∀ i j, i < b.length → j < b.length → (b.getD i []).getD j 0 = joinF a b (a.length + i) (a.length + j) := fun i j hi hj => by unfold joinF; rw [if_neg (by omega), if_neg (by omega), Nat.add_sub_cancel_left, Nat.add_sub_cancel_left]; rfl
    obtain ⟨na, hna⟩ : ∃ n, n = a.length := ⟨_, rfl⟩
    obtain ⟨nb, hnb⟩ : ∃ n, n = b.length := ⟨_, rfl⟩
    have hpa := hMa.pos
    have hpb := hMb.pos
    have h9a := hMa.le
    have h9b := hMb.le
    rw [← hna] at hMa hjo hjl hra hrb hrs hva hvb hz0 hfull hpa h9a h ha hla1 ⊢
    rw [← hnb] at hMb hjo hjl hra hrb hrs hvb hz0 hfull hpb h9b h' hb hlb1 ⊢
    obtain ⟨J, hJ⟩ : ∃ J, J = joinF a b := ⟨_, rfl⟩
    rw [← hJ] at hra hrb hrs hva hvb hz0 hfull
    have hz := spec_l4Zero_any (na + nb) (na + nb) w (by omega) (by omega)
    have ec : ((na + nb : Nat) : Int) = (na : Int) + (nb : Int) := by omega
    rw [ec] at hz
    have HM := Lib.hid (And.intro h (And.intro h' (And.intro hMa (And.intro hMb (And.intro ha (And.intro hb hz))))))
    have HJ := Lib.hid (And.intro hra (And.intro hrb (And.intro hrs (And.intro hva (And.intro hvb (And.intro hz0 hfull))))))
    have HN := Lib.hid (And.intro hna (And.intro hnb (And.intro hjo hjl)))
    clear ha hb hma hmb hra hrb hrs hva hvb hz0 hfull hz ec hJ hna hnb h h' hMa hMb hjo hjl
    by_cases h9 : na + nb ≤ 9
    rotate_left
    · have HO := Lib.hid (HN.out.2.2.2 h9)
      have h91 : 9 < (na : Int) + (nb : Int) := by omega
      clear h9
      go_enter Try.func39, Try.ntmps39
      go_wp2_with (first | (go_at_call 70; with_reducible refine HM.out.2.2.2.2.1.mono ?_; rintro e w' ⟨rfl, rfl⟩) | (go_at_call 70; with_reducible refine HM.out.2.2.2.2.2.1.mono ?_; rintro e w' ⟨rfl, rfl⟩))
      go_ret2
      exact ⟨_, by rw [HO.out]; rfl, by rw [HO.out]; exact spec_nil_rows w, Ext.alloc _ _⟩
    have HO := Lib.hid (HN.out.2.2.1 h9)
    go_enter Try.func39, Try.ntmps39
    go_wp2_with (first | (go_at_call 70; with_reducible refine HM.out.2.2.2.2.1.mono ?_; rintro e w' ⟨rfl, rfl⟩) | (go_at_call 70; with_reducible refine HM.out.2.2.2.2.2.1.mono ?_; rintro e w' ⟨rfl, rfl⟩) | (go_at_call 77; with_reducible refine HM.out.2.2.2.2.2.2.mono ?_; rintro e w1 ⟨g, cap, gs, cs, rfl, ht, hx⟩; rw [HJ.out.2.2.2.2.2.1] at ht))
    go_loopw [7] (fun i wr => ∃ k : Nat, k ≤ na ∧ i = .int .i64 k ∧ MTab wr w.heap.size 22 3 g (na + nb) cap gs cs (tabF (na + nb) (na + nb) (maskF (doneB k 0) J)) ∧ Ext w wr) (fun i _ => na - (intOf i).toNat)
    case atStart => exact ⟨0, by omega, rfl, ht, hx⟩
    case round =>
      clear ht hx
      obtain ⟨k, hk, rfl, ht, hx⟩ := hrel
      by_cases hlt : k < na
      · go_wp2
        go_loopw [8] (fun i wr => ∃ j : Nat, j ≤ na ∧ i = .int .i64 j ∧ MTab wr w.heap.size 22 3 g (na + nb) cap gs cs (tabF (na + nb) (na + nb) (maskF (doneB k j) J)) ∧ Ext w wr) (fun i _ => na - (intOf i).toNat)
        case atStart => exact ⟨0, by omega, rfl, ht, hx⟩
        case round =>
          clear ht hx
          obtain ⟨j, hj, rfl, ht, hx⟩ := hrel
          by_cases hltj : j < na
          · obtain ⟨bk, o, a', c', rfl, hcell, hrow⟩ := (HM.out.1.ext hx).at k (by rw [← HN.out.1]; exact hlt)
            obtain ⟨b', o', rfl, hcell'⟩ := hrow.at j (by rw [HM.out.2.2.1.row k hlt]; omega)
            rw [HM.out.2.2.1.row k hlt] at hcell
            have hlc := (hrow.len).2.1
            rw [HM.out.2.2.1.row k hlt] at hlc
            rw [HJ.out.2.2.2.1 k j hlt hltj] at hcell'
            have hkR : k < (tabF (na + nb) (na + nb) (maskF (doneB k j) J)).length := by rw [tabF_length]; omega
            have hsp := ht.spot k hkR
            rw [tabF_row_length (by omega)] at hsp
            obtain ⟨x, hxx⟩ : ∃ x, x = J k j := ⟨_, rfl⟩
            rw [← hxx] at hcell'
            have HT := Lib.hid (And.intro ht (And.intro hkR hxx))
            clear ht hkR hxx hrow
            go_wp2
            refine wp_region_tail (by kernel_rfl) 13 [.known ?hx8_6_v0, .known ?hx8_6_v1, .known ?hx8_6_v2, .known ?hx8_6_v3, .known ?hx8_6_v4, .known ?hx8_6_v5, .known ?hx8_6_v6, .known ?hx8_6_v7, .known ?hx8_6_v8, .known ?hx8_6_v9, .known ?hx8_6_v10, .known ?hx8_6_v11, .known ?hx8_6_v12] rfl (by decide) (by kernel_rfl) (by kernel_rfl) ?hx8_6_s ?hx8_6_p
            case hx8_6_s =>
              intro vs
              refine ⟨fun w' hxw hj => ?_, fun w' hxw hj => ?_, fun w' hxw hj => ?_, fun w' hxw hj => ?_, fun w' hxw hj => ?_, fun w' hxw hj => ?_, fun w' hxw hj => ?_, fun w' hxw hj => ?_, fun w' hxw hj => ?_, fun w' hxw hj => ?_, fun w' hxw hj => ?_, fun w' hxw hj => ?_, fun w' hxw hj => ?_, trivial⟩
              · have hcell := Ext.cell_some hxw hcell
                have hcell' := Ext.cell_some hxw hcell'
                have hsp := Ext.cell_some hxw hsp
                clear hj
                go_simp
                try go_bits
                first | rfl | (rw [if_pos (by omega), if_pos (by omega)]; go_simp; rfl) | (rw [if_pos (by omega)]; go_simp; rfl) | skip
              · have hcell := Ext.cell_some hxw hcell
                have hcell' := Ext.cell_some hxw hcell'
                have hsp := Ext.cell_some hxw hsp
                clear hj
                go_simp
                try go_bits
                first | rfl | (rw [if_pos (by omega), if_pos (by omega)]; go_simp; rfl) | (rw [if_pos (by omega)]; go_simp; rfl) | skip
              · have hcell := Ext.cell_some hxw hcell
                have hcell' := Ext.cell_some hxw hcell'
                have hsp := Ext.cell_some hxw hsp
                clear hj
                go_simp
                try go_bits
                first | rfl | (rw [if_pos (by omega), if_pos (by omega)]; go_simp; rfl) | (rw [if_pos (by omega)]; go_simp; rfl) | skip
              · have hcell := Ext.cell_some hxw hcell
                have hcell' := Ext.cell_some hxw hcell'
                have hsp := Ext.cell_some hxw hsp
                clear hj
                go_simp
                try go_bits
                first | rfl | (rw [if_pos (by omega), if_pos (by omega)]; go_simp; rfl) | (rw [if_pos (by omega)]; go_simp; rfl) | skip
              · have hcell := Ext.cell_some hxw hcell
                have hcell' := Ext.cell_some hxw hcell'
                have hsp := Ext.cell_some hxw hsp
                clear hj
                go_simp
                try go_bits
                first | rfl | (rw [if_pos (by omega), if_pos (by omega)]; go_simp; rfl) | (rw [if_pos (by omega)]; go_simp; rfl) | skip
              · have hcell := Ext.cell_some hxw hcell
                have hcell' := Ext.cell_some hxw hcell'
                have hsp := Ext.cell_some hxw hsp
                clear hj
                go_simp
                try go_bits
                first | rfl | (rw [if_pos (by omega), if_pos (by omega)]; go_simp; rfl) | (rw [if_pos (by omega)]; go_simp; rfl) | skip
              · have hcell := Ext.cell_some hxw hcell
                have hcell' := Ext.cell_some hxw hcell'
                have hsp := Ext.cell_some hxw hsp
                clear hj
                go_simp
                try go_bits
                first | rfl | (rw [if_pos (by omega), if_pos (by omega)]; go_simp; rfl) | (rw [if_pos (by omega)]; go_simp; rfl) | skip
              · have hcell := Ext.cell_some hxw hcell
                have hcell' := Ext.cell_some hxw hcell'
                have hsp := Ext.cell_some hxw hsp
                clear hj
                go_simp
                try go_bits
                first | rfl | (rw [if_pos (by omega), if_pos (by omega)]; go_simp; rfl) | (rw [if_pos (by omega)]; go_simp; rfl) | skip
              · have hcell := Ext.cell_some hxw hcell
                have hcell' := Ext.cell_some hxw hcell'
                have hsp := Ext.cell_some hxw hsp
                clear hj
                go_simp
                try go_bits
                first | rfl | (rw [if_pos (by omega), if_pos (by omega)]; go_simp; rfl) | (rw [if_pos (by omega)]; go_simp; rfl) | skip
              · have hcell := Ext.cell_some hxw hcell
                have hcell' := Ext.cell_some hxw hcell'
                have hsp := Ext.cell_some hxw hsp
                clear hj
                go_simp
                try go_bits
                first | rfl | (rw [if_pos (by omega), if_pos (by omega)]; go_simp; rfl) | (rw [if_pos (by omega)]; go_simp; rfl) | skip
              · have hcell := Ext.cell_some hxw hcell
                have hcell' := Ext.cell_some hxw hcell'
                have hsp := Ext.cell_some hxw hsp
                clear hj
                go_simp
                try go_bits
                first | rfl | (rw [if_pos (by omega), if_pos (by omega)]; go_simp; rfl) | (rw [if_pos (by omega)]; go_simp; rfl) | skip
              · have hcell := Ext.cell_some hxw hcell
                have hcell' := Ext.cell_some hxw hcell'
                have hsp := Ext.cell_some hxw hsp
                clear hj
                go_simp
                try go_bits
                first | rfl | (rw [if_pos (by omega), if_pos (by omega)]; go_simp; rfl) | (rw [if_pos (by omega)]; go_simp; rfl) | skip
              · have hcell := Ext.cell_some hxw hcell
                have hcell' := Ext.cell_some hxw hcell'
                have hsp := Ext.cell_some hxw hsp
                clear hj
                go_simp
                try go_bits
                first | rfl | (rw [if_pos (by omega), if_pos (by omega)]; go_simp; rfl) | (rw [if_pos (by omega)]; go_simp; rfl) | skip
            case' hx8_6_p =>
              intro vs w8 hx8 hk
              clear hk
              replace hcell := Ext.cell_some hx8 hcell
              replace hcell' := Ext.cell_some hx8 hcell'
              replace hsp := Ext.cell_some hx8 hsp
              replace hx := Ext.trans hx hx8
              go_simp
              have ht8 := HT.out.1.ext hx8
              have hc8 := ht8.at k j HT.out.2.1 (by rw [tabF_row_length (by omega)]; omega)
              have hf8 := ht8.frozen k j HT.out.2.1
              have hs8 := ht8.set k j HT.out.2.1 x
              rw [HT.out.2.2, fill_set (by omega), ← HT.out.2.2] at hs8
              have hx9 := hx.setCell (p := ⟨gs k, j, none⟩) (ht8.rowlt k HT.out.2.1).1 (.int .i64 x)
              have H8 := Lib.hid (And.intro hs8 hx9)
              clear ht8 hs8 hx9 hx8 hx
              go_wp2
              go_roundw
              case rel => exact ⟨j + 1, by omega, by go_num, H8.out.1, H8.out.2⟩
              case measure => simp [intOf]; omega
          · have hjn : j = na := by omega
            subst hjn
            rw [HJ.out.1 k hlt] at ht
            go_wp2
            go_roundw
            case rel => exact ⟨k + 1, by omega, by go_num, ht, hx⟩
            case measure => simp [intOf]; omega
      · have hkn : k = na := by omega
        subst hkn
        go_wp2
        go_loopw [9] (fun i wr => ∃ j : Nat, j ≤ nb ∧ i = .int .i64 j ∧ MTab wr w.heap.size 22 3 g (k + nb) cap gs cs (tabF (k + nb) (k + nb) (maskF (doneB (k + j) 0) J)) ∧ Ext w wr) (fun i _ => nb - (intOf i).toNat)
        case atStart => exact ⟨0, by omega, rfl, ht, hx⟩
        case round =>
          clear ht hx
          obtain ⟨i, hi, rfl, ht, hx⟩ := hrel
          by_cases hlti : i < nb
          · rw [HJ.out.2.2.1 i hlti] at ht
            go_wp2
            go_loopw [10] (fun q wr => ∃ j : Nat, j ≤ nb ∧ q = .int .i64 j ∧ MTab wr w.heap.size 22 3 g (k + nb) cap gs cs (tabF (k + nb) (k + nb) (maskF (doneB (k + i) (k + j)) J)) ∧ Ext w wr) (fun q _ => nb - (intOf q).toNat)
            case atStart => exact ⟨0, by omega, rfl, ht, hx⟩
            case round =>
              clear ht hx
              obtain ⟨j, hj, rfl, ht, hx⟩ := hrel
              by_cases hltj : j < nb
              · obtain ⟨bk, o, a', c', rfl, hcell, hrow⟩ := (HM.out.2.1.ext hx).at i (by rw [← HN.out.2.1]; exact hlti)
                obtain ⟨b', o', rfl, hcell'⟩ := hrow.at j (by rw [HM.out.2.2.2.1.row i hlti]; omega)
                rw [HM.out.2.2.2.1.row i hlti] at hcell
                have hlc := (hrow.len).2.1
                rw [HM.out.2.2.2.1.row i hlti] at hlc
                rw [HJ.out.2.2.2.2.1 i j hlti hltj] at hcell'
                obtain ⟨p, hp⟩ : ∃ p, p = k + i := ⟨_, rfl⟩
                obtain ⟨r, hr⟩ : ∃ r, r = k + j := ⟨_, rfl⟩
                have hpe : (k : Int) + (i : Int) = (p : Int) := by omega
                have hre : (k : Int) + (j : Int) = (r : Int) := by omega
                have hpn : p < k + nb := by omega
                have hrn : r < k + nb := by omega
                rw [← hp, ← hr] at ht hcell'
                have hkR : p < (tabF (k + nb) (k + nb) (maskF (doneB p r) J)).length := by rw [tabF_length]; omega
                have hsp := ht.spot p hkR
                rw [tabF_row_length (by omega)] at hsp
                obtain ⟨x, hxx⟩ : ∃ x, x = J p r := ⟨_, rfl⟩
                rw [← hxx] at hcell'
                have HT := Lib.hid (And.intro ht (And.intro hkR (And.intro hxx (And.intro hp hr))))
                clear ht hkR hxx hrow hp hr
                go_wp2
                refine wp_region_tail (by kernel_rfl) 19 [.known ?hx8_7_v0, .known ?hx8_7_v1, .known ?hx8_7_v2, .known ?hx8_7_v3, .known ?hx8_7_v4, .known ?hx8_7_v5, .known ?hx8_7_v6, .known ?hx8_7_v7, .known ?hx8_7_v8, .known ?hx8_7_v9, .known ?hx8_7_v10, .known ?hx8_7_v11, .known ?hx8_7_v12, .known ?hx8_7_v13, .known ?hx8_7_v14, .known ?hx8_7_v15, .known ?hx8_7_v16, .known ?hx8_7_v17, .known ?hx8_7_v18] rfl (by decide) (by kernel_rfl) (by kernel_rfl) ?hx8_7_s ?hx8_7_p
                case hx8_7_s =>
                  intro vs
                  refine ⟨fun w' hxw hj => ?_, fun w' hxw hj => ?_, fun w' hxw hj => ?_, fun w' hxw hj => ?_, fun w' hxw hj => ?_, fun w' hxw hj => ?_, fun w' hxw hj => ?_, fun w' hxw hj => ?_, fun w' hxw hj => ?_, fun w' hxw hj => ?_, fun w' hxw hj => ?_, fun w' hxw hj => ?_, fun w' hxw hj => ?_, fun w' hxw hj => ?_, fun w' hxw hj => ?_, fun w' hxw hj => ?_, fun w' hxw hj => ?_, fun w' hxw hj => ?_, fun w' hxw hj => ?_, trivial⟩
                  · have hcell := Ext.cell_some hxw hcell
                    have hcell' := Ext.cell_some hxw hcell'
                    have hsp := Ext.cell_some hxw hsp
                    clear hj
                    go_simp
                    try go_bits
                    first | rfl | (rw [if_pos (by omega), if_pos (by omega)]; go_simp; rfl) | (rw [if_pos (by omega)]; go_simp; rfl) | skip
                  · have hcell := Ext.cell_some hxw hcell
                    have hcell' := Ext.cell_some hxw hcell'
                    have hsp := Ext.cell_some hxw hsp
                    clear hj
                    go_simp
                    try go_bits
                    first | rfl | (rw [if_pos (by omega), if_pos (by omega)]; go_simp; rfl) | (rw [if_pos (by omega)]; go_simp; rfl) | skip
                  · have hcell := Ext.cell_some hxw hcell
                    have hcell' := Ext.cell_some hxw hcell'
                    have hsp := Ext.cell_some hxw hsp
                    clear hj
                    go_simp
                    try go_bits
                    first | rfl | (rw [if_pos (by omega), if_pos (by omega)]; go_simp; rfl) | (rw [if_pos (by omega)]; go_simp; rfl) | skip
                  · have hcell := Ext.cell_some hxw hcell
                    have hcell' := Ext.cell_some hxw hcell'
                    have hsp := Ext.cell_some hxw hsp
                    clear hj
                    go_simp
                    try go_bits
                    first | rfl | (rw [if_pos (by omega), if_pos (by omega)]; go_simp; rfl) | (rw [if_pos (by omega)]; go_simp; rfl) | skip
                  · have hcell := Ext.cell_some hxw hcell
                    have hcell' := Ext.cell_some hxw hcell'
                    have hsp := Ext.cell_some hxw hsp
                    clear hj
                    go_simp
                    try go_bits
                    first | rfl | (rw [if_pos (by omega), if_pos (by omega)]; go_simp; rfl) | (rw [if_pos (by omega)]; go_simp; rfl) | skip
                  · have hcell := Ext.cell_some hxw hcell
                    have hcell' := Ext.cell_some hxw hcell'
                    have hsp := Ext.cell_some hxw hsp
                    clear hj
                    go_simp
                    try go_bits
                    first | rfl | (rw [if_pos (by omega), if_pos (by omega)]; go_simp; rfl) | (rw [if_pos (by omega)]; go_simp; rfl) | skip
                  · have hcell := Ext.cell_some hxw hcell
                    have hcell' := Ext.cell_some hxw hcell'
                    have hsp := Ext.cell_some hxw hsp
                    clear hj
                    go_simp
                    try go_bits
                    first | rfl | (rw [if_pos (by omega), if_pos (by omega)]; go_simp; rfl) | (rw [if_pos (by omega)]; go_simp; rfl) | skip
                  · have hcell := Ext.cell_some hxw hcell
                    have hcell' := Ext.cell_some hxw hcell'
                    have hsp := Ext.cell_some hxw hsp
                    clear hj
                    go_simp
                    try go_bits
                    first | rfl | (rw [if_pos (by omega), if_pos (by omega)]; go_simp; rfl) | (rw [if_pos (by omega)]; go_simp; rfl) | skip
                  · have hcell := Ext.cell_some hxw hcell
                    have hcell' := Ext.cell_some hxw hcell'
                    have hsp := Ext.cell_some hxw hsp
                    clear hj
                    go_simp
                    try go_bits
                    first | rfl | (rw [if_pos (by omega), if_pos (by omega)]; go_simp; rfl) | (rw [if_pos (by omega)]; go_simp; rfl) | skip
                  · have hcell := Ext.cell_some hxw hcell
                    have hcell' := Ext.cell_some hxw hcell'
                    have hsp := Ext.cell_some hxw hsp
                    clear hj
                    go_simp
                    try go_bits
                    first | rfl | (rw [if_pos (by omega), if_pos (by omega)]; go_simp; rfl) | (rw [if_pos (by omega)]; go_simp; rfl) | skip
                  · have hcell := Ext.cell_some hxw hcell
                    have hcell' := Ext.cell_some hxw hcell'
                    have hsp := Ext.cell_some hxw hsp
                    clear hj
                    go_simp
                    try go_bits
                    first | rfl | (rw [if_pos (by omega), if_pos (by omega)]; go_simp; rfl) | (rw [if_pos (by omega)]; go_simp; rfl) | skip
                  · have hcell := Ext.cell_some hxw hcell
                    have hcell' := Ext.cell_some hxw hcell'
                    have hsp := Ext.cell_some hxw hsp
                    clear hj
                    go_simp
                    try go_bits
                    first | rfl | (rw [if_pos (by omega), if_pos (by omega)]; go_simp; rfl) | (rw [if_pos (by omega)]; go_simp; rfl) | skip
                  · have hcell := Ext.cell_some hxw hcell
                    have hcell' := Ext.cell_some hxw hcell'
                    have hsp := Ext.cell_some hxw hsp
                    clear hj
                    go_simp
                    try go_bits
                    first | rfl | (rw [if_pos (by omega), if_pos (by omega)]; go_simp; rfl) | (rw [if_pos (by omega)]; go_simp; rfl) | skip
                  · have hcell := Ext.cell_some hxw hcell
                    have hcell' := Ext.cell_some hxw hcell'
                    have hsp := Ext.cell_some hxw hsp
                    clear hj
                    go_simp
                    try go_bits
                    first | rfl | (rw [if_pos (by omega), if_pos (by omega)]; go_simp; rfl) | (rw [if_pos (by omega)]; go_simp; rfl) | skip
                  · have hcell := Ext.cell_some hxw hcell
                    have hcell' := Ext.cell_some hxw hcell'
                    have hsp := Ext.cell_some hxw hsp
                    clear hj
                    go_simp
                    try go_bits
                    first | rfl | (rw [if_pos (by omega), if_pos (by omega)]; go_simp; rfl) | (rw [if_pos (by omega)]; go_simp; rfl) | skip
                  · have hcell := Ext.cell_some hxw hcell
                    have hcell' := Ext.cell_some hxw hcell'
                    have hsp := Ext.cell_some hxw hsp
                    clear hj
                    go_simp
                    try go_bits
                    first | rfl | (rw [if_pos (by omega), if_pos (by omega)]; go_simp; rfl) | (rw [if_pos (by omega)]; go_simp; rfl) | skip
                  · have hcell := Ext.cell_some hxw hcell
                    have hcell' := Ext.cell_some hxw hcell'
                    have hsp := Ext.cell_some hxw hsp
                    clear hj
                    go_simp
                    try go_bits
                    first | rfl | (rw [if_pos (by omega), if_pos (by omega)]; go_simp; rfl) | (rw [if_pos (by omega)]; go_simp; rfl) | skip
                  · have hcell := Ext.cell_some hxw hcell
                    have hcell' := Ext.cell_some hxw hcell'
                    have hsp := Ext.cell_some hxw hsp
                    clear hj
                    go_simp
                    try go_bits
                    first | rfl | (rw [if_pos (by omega), if_pos (by omega)]; go_simp; rfl) | (rw [if_pos (by omega)]; go_simp; rfl) | skip
                  · have hcell := Ext.cell_some hxw hcell
                    have hcell' := Ext.cell_some hxw hcell'
                    have hsp := Ext.cell_some hxw hsp
                    clear hj
                    go_simp
                    try go_bits
                    first | rfl | (rw [if_pos (by omega), if_pos (by omega)]; go_simp; rfl) | (rw [if_pos (by omega)]; go_simp; rfl) | skip
                case' hx8_7_p =>
                  intro vs w8 hx8 hk
                  clear hk
                  replace hcell := Ext.cell_some hx8 hcell
                  replace hcell' := Ext.cell_some hx8 hcell'
                  replace hsp := Ext.cell_some hx8 hsp
                  replace hx := Ext.trans hx hx8
                  go_simp
                  have ht8 := HT.out.1.ext hx8
                  have hc8 := ht8.at p r HT.out.2.1 (by rw [tabF_row_length (by omega)]; omega)
                  have hf8 := ht8.frozen p r HT.out.2.1
                  have hs8 := ht8.set p r HT.out.2.1 x
                  rw [HT.out.2.2.1, fill_set (by omega), ← HT.out.2.2.1] at hs8
                  have hx9 := hx.setCell (p := ⟨gs p, r, none⟩) (ht8.rowlt p HT.out.2.1).1 (.int .i64 x)
                  have H8 := Lib.hid (And.intro hs8 hx9)
                  clear ht8 hs8 hx9 hx8 hx
                  go_wp2
                  go_roundw
                  case rel => exact ⟨j + 1, by omega, by go_num, by rw [← HT.out.2.2.2.1, show k + (j + 1) = r + 1 by rw [HT.out.2.2.2.2, Nat.add_assoc]]; exact H8.out.1, H8.out.2⟩
                  case measure => simp [intOf]; omega
              · have hjn : j = nb := by omega
                subst hjn
                rw [HJ.out.2.1 i hlti] at ht
                go_wp2
                go_roundw
                case rel => exact ⟨i + 1, by omega, by go_num, ht, hx⟩
                case measure => simp [intOf]; omega
          · have hin : i = nb := by omega
            subst hin
            rw [HJ.out.2.2.2.2.2.2] at ht
            have hjl : (joinM a b).length = k + i := by unfold joinM; rw [tabF_length, ← HN.out.1, ← HN.out.2.1]
            have HR := Lib.hid (ht.reads hjl.symm)
            clear hjl ht
            go_wp2
            go_ret2
            exact ⟨_, by rw [HO.out]; rfl, by rw [HO.out]; exact HR.out, hx⟩
end Go.Proofs.Ytihidaeecfbngaa

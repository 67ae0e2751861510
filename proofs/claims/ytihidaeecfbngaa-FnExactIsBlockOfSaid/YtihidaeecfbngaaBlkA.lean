/- Contracts: the graph of the arcs of a graph, by the program and by the reference. -/
import Derived.Test.YtihidaeecfbngaaArcA
import Derived.Test.YtihidaeecfbngaaEqM
namespace Go.Proofs.Ytihidaeecfbngaa
open Go.RowKit Go.Mx

theorem blkO_no {m : List (List Int)} (h : ¬ (1 ≤ (arcsG m).length ∧ (arcsG m).length ≤ 9)) : blkO m = none := by unfold blkO; rw [if_neg h]
theorem blkO_yes {m : List (List Int)} (h1 : 1 ≤ (arcsG m).length) (h2 : (arcsG m).length ≤ 9) : blkO m = some (tabF (arcsG m).length (arcsG m).length (blkF (arcsG m))) := by unfold blkO; rw [if_pos ⟨h1, h2⟩]
theorem arcsG_two (m : List (List Int)) (i : Nat) (hi : i < (arcsG m).length) : ((arcsG m).getD i []).length = 2 := by
  have key : ∀ r ∈ arcsG m, r.length = 2 := by
    intro r hr
    unfold arcsG at hr
    split at hr
    · exact arcsL_two m r hr
    · cases hr
  rw [List.getD_eq_getElem?_getD, List.getElem?_eq_getElem hi]
  exact key _ (List.getElem_mem hi)
theorem blkF_or (l : List (List Int)) (i j : Nat) : (blkF l i j = 1 ∧ (l.getD i []).getD 1 0 = (l.getD j []).getD 0 0) ∨ (blkF l i j = 0 ∧ ¬ (l.getD i []).getD 1 0 = (l.getD j []).getD 0 0) := by
  unfold blkF
  by_cases h : (l.getD i []).getD 1 0 = (l.getD j []).getD 0 0
  · exact .inl ⟨if_pos h, h⟩
  · exact .inr ⟨if_neg h, h⟩
theorem fill_skip1 {R C : Nat} {F : Nat → Nat → Int} {i j : Nat} (h : F i j = 0) : tabF R C (maskF (doneB i j) F) = tabF R C (maskF (doneB i (j + 1)) F) := by
  apply mask_same
  intro p q _ _
  by_cases e : p = i ∧ q = j
  · obtain ⟨rfl, rfl⟩ := e; exact .inr h
  · left; rw [Bool.eq_iff_iff]; simp [doneB]; omega

set_option maxRecDepth 100000 in
set_option maxHeartbeats 4000000 in
theorem impl_BlockGraph_any (v : Value) (m : List (List Int)) (w : World) (h : ReadsRows w v m) :
    Calls Try.prog 48 #[v] w fun e w' => ∃ u, e = .returned (.tuple #[u, .bool (blkO m).isSome]) ∧ ResM w' w.heap.size u ((blkO m).getD []) ∧ Ext w w' := by
  have ha := impl_ArcsOf_any v m w h
  have hno := blkO_no (m := m)
  have hyes := blkO_yes (m := m)
  have htwo := arcsG_two m
  obtain ⟨l, hl⟩ : ∃ l, l = arcsG m := ⟨_, rfl⟩
  rw [← hl] at ha hno hyes htwo
  have HA := Lib.hid (And.intro ha (And.intro hno (And.intro hyes htwo)))
  clear ha hno hyes htwo hl
  go_enter Try.func48, Try.ntmps48
  go_wp2_with fail
  with_reducible refine HA.out.1.mono ?_
  rintro e w1 ⟨u, rfl, hrd, hx⟩
  obtain ⟨pa, ca, rfl⟩ := hrd.slice
  obtain ⟨-, hlc1, hlc2⟩ := hrd.len
  have hno := HA.out.2.1
  have hyes := HA.out.2.2.1
  have htwo := HA.out.2.2.2
  obtain ⟨L, hL⟩ : ∃ L, L = l.length := ⟨_, rfl⟩
  rw [← hL] at hrd hlc1 hno hyes htwo ⊢
  by_cases hL0 : L = 0
  · have HN := Lib.hid (hno (by omega))
    subst hL0
    clear hno hyes htwo hrd hL
    go_wp2
    go_ret2
    exact ⟨_, by rw [HN.out]; rfl, by rw [HN.out]; exact .inl ⟨rfl, rfl⟩, hx⟩
  by_cases hL9 : 9 < L
  · have HN := Lib.hid (hno (by omega))
    have hL0b : ((L : Int) == 0) = false := by simp; omega
    clear hno hyes htwo hrd hL hL0
    go_wp2
    go_ret2
    exact ⟨_, by rw [HN.out]; rfl, by rw [HN.out]; exact .inl ⟨rfl, rfl⟩, hx⟩
  have hL0b : ((L : Int) == 0) = false := by simp; omega
  have hz := impl_zeros_any L w1 (by omega)
  have hz0 : tabF L L (fun _ _ => 0) = tabF L L (maskF (doneB 0 0) (blkF l)) := (fill_zero (fun _ _ h _ => by omega) (fun _ h => by omega)).symm
  rw [hz0] at hz
  have hor := blkF_or l
  obtain ⟨F, hF⟩ : ∃ F, F = blkF l := ⟨_, rfl⟩
  rw [← hF] at hz hyes hor
  have HM := Lib.hid (And.intro hrd (And.intro hL (And.intro (hyes (by omega) (by omega)) (And.intro htwo (And.intro hz hor)))))
  clear hno hyes htwo hrd hL hL0 hz hz0 hor hF
  go_wp2_with (go_at_call 78; with_reducible refine HM.out.2.2.2.2.1.mono ?_; rintro e w2 ⟨g, cap, gs, cs, rfl, ht, hx2⟩)
  go_loopw [25] (fun q wr => ∃ k : Nat, k ≤ L ∧ q = .int .i64 k ∧ MTab wr w1.heap.size 22 3 g L cap gs cs (tabF L L (maskF (doneB k 0) F)) ∧ Ext w1 wr) (fun q _ => L - (intOf q).toNat)
  case atStart => exact ⟨0, by omega, rfl, ht, hx2⟩
  case round =>
    clear ht hx2
    obtain ⟨i, hi, rfl, ht, hx1⟩ := hrel
    by_cases hlti : i < L
    · obtain ⟨bk, o, a', c', rfl, hcA, hrow⟩ := HM.out.1.at i (by rw [← HM.out.2.1]; exact hlti)
      have hli := HM.out.2.2.2.1 i hlti
      obtain ⟨b', o', rfl, hcA'⟩ := hrow.at 1 (by rw [hli]; omega)
      rw [hli] at hcA hrow
      have hlc := hrow.len.2.1
      have HC := Lib.hid hcA'
      have hcA := hx1.cell_some hcA
      have HT := Lib.hid ht
      clear hcA' hrow ht hli
      go_wp2
      clear hcA
      go_loopw [32] (fun q wr => ∃ k : Nat, k ≤ L ∧ q = .int .i64 k ∧ MTab wr w1.heap.size 22 3 g L cap gs cs (tabF L L (maskF (doneB i k) F)) ∧ Ext w1 wr) (fun q _ => L - (intOf q).toNat)
      case atStart => exact ⟨0, by omega, rfl, HT.out, hx1⟩
      case round =>
        clear hx1 HT
        obtain ⟨j, hj, rfl, ht, hx1⟩ := hrel
        by_cases hltj : j < L
        · obtain ⟨bk2, o2, a2, c2, e, hcB, hrow2⟩ := HM.out.1.at j (by rw [← HM.out.2.1]; exact hltj)
          cases e
          have hlj := HM.out.2.2.2.1 j hltj
          obtain ⟨b2, o2', rfl, hcB'⟩ := hrow2.at 0 (by rw [hlj]; omega)
          rw [hlj] at hcB hrow2
          rw [Nat.add_zero] at hcB'
          have hlc2 := hrow2.len.2.1
          have hcA' := hx1.cell_some HC.out
          replace hcB := hx1.cell_some hcB
          replace hcB' := hx1.cell_some hcB'
          obtain ⟨x, hxx⟩ : ∃ x, x = (l.getD i []).getD 1 0 := ⟨_, rfl⟩
          obtain ⟨y, hyy⟩ : ∃ x, x = (l.getD j []).getD 0 0 := ⟨_, rfl⟩
          have hor := HM.out.2.2.2.2.2 i j
          rw [← hxx] at hcA' hor
          rw [← hyy] at hcB' hor
          have hkR : i < (tabF L L (maskF (doneB i j) F)).length := by rw [tabF_length]; exact hlti
          have hsp := ht.spot i hkR
          have hcp := (ht.row i hkR).caps.1
          rw [tabF_row_length hlti] at hsp hcp
          have HT := Lib.hid (And.intro ht hkR)
          clear ht hkR hxx hyy hrow2 hlj
          rcases hor with ⟨hF1, hxy⟩ | ⟨hF0, hxy⟩
          · subst hxy
            have HF := Lib.hid hF1
            clear hF1
            go_wp2
            refine wp_region_inv (by kernel_rfl) [.known ?hx8_1_v0, .known ?hx8_1_v1, .known ?hx8_1_v2, .known ?hx8_1_v3, .known ?hx8_1_v4, .known ?hx8_1_v5, .known ?hx8_1_v6] rfl (by kernel_rfl) ?hx8_1_s ?hx8_1_p
            case hx8_1_s =>
              intro vs
              refine ⟨fun w' hxw hj => ?_, fun w' hxw hj => ?_, fun w' hxw hj => ?_, fun w' hxw hj => ?_, fun w' hxw hj => ?_, fun w' hxw hj => ?_, fun w' hxw hj => ?_, trivial⟩
              · have hcA' := Ext.cell_some hxw hcA'
                have hcB' := Ext.cell_some hxw hcB'
                have hsp := Ext.cell_some hxw hsp
                clear hj
                go_simp
                try go_bits
                first | rfl | (rw [if_pos (by omega), if_pos (by omega)]; go_simp; rfl) | (rw [if_pos (by omega)]; go_simp; rfl) | skip
              · have hcA' := Ext.cell_some hxw hcA'
                have hcB' := Ext.cell_some hxw hcB'
                have hsp := Ext.cell_some hxw hsp
                clear hj
                go_simp
                try go_bits
                first | rfl | (rw [if_pos (by omega), if_pos (by omega)]; go_simp; rfl) | (rw [if_pos (by omega)]; go_simp; rfl) | skip
              · have hcA' := Ext.cell_some hxw hcA'
                have hcB' := Ext.cell_some hxw hcB'
                have hsp := Ext.cell_some hxw hsp
                clear hj
                go_simp
                try go_bits
                first | rfl | (rw [if_pos (by omega), if_pos (by omega)]; go_simp; rfl) | (rw [if_pos (by omega)]; go_simp; rfl) | skip
              · have hcA' := Ext.cell_some hxw hcA'
                have hcB' := Ext.cell_some hxw hcB'
                have hsp := Ext.cell_some hxw hsp
                clear hj
                go_simp
                try go_bits
                first | rfl | (rw [if_pos (by omega), if_pos (by omega)]; go_simp; rfl) | (rw [if_pos (by omega)]; go_simp; rfl) | skip
              · have hcA' := Ext.cell_some hxw hcA'
                have hcB' := Ext.cell_some hxw hcB'
                have hsp := Ext.cell_some hxw hsp
                clear hj
                go_simp
                try go_bits
                first | rfl | (rw [if_pos (by omega), if_pos (by omega)]; go_simp; rfl) | (rw [if_pos (by omega)]; go_simp; rfl) | skip
              · have hcA' := Ext.cell_some hxw hcA'
                have hcB' := Ext.cell_some hxw hcB'
                have hsp := Ext.cell_some hxw hsp
                clear hj
                go_simp
                try go_bits
                first | rfl | (rw [if_pos (by omega), if_pos (by omega)]; go_simp; rfl) | (rw [if_pos (by omega)]; go_simp; rfl) | skip
              · have hcA' := Ext.cell_some hxw hcA'
                have hcB' := Ext.cell_some hxw hcB'
                have hsp := Ext.cell_some hxw hsp
                clear hj
                go_simp
                try go_bits
                first | rfl | (rw [if_pos (by omega), if_pos (by omega)]; go_simp; rfl) | (rw [if_pos (by omega)]; go_simp; rfl) | skip
            case' hx8_1_p =>
              intro vs w8 hx8 hk
              clear hk
              replace hcA' := Ext.cell_some hx8 hcA'
              replace hcB' := Ext.cell_some hx8 hcB'
              replace hsp := Ext.cell_some hx8 hsp
              replace hx1 := Ext.trans hx1 hx8
              go_simp
              have ht8 := HT.out.1.ext hx8
              have hc8 := ht8.at i j HT.out.2 (by rw [tabF_row_length hlti]; exact hltj)
              have hf8 := ht8.frozen i j HT.out.2
              have hs8 := ht8.set i j HT.out.2 1
              rw [← HF.out, fill_set hlti, HF.out] at hs8
              have hx9 := hx1.setCell (p := ⟨gs i, j, none⟩) (ht8.rowlt i HT.out.2).1 (.int .i64 1)
              have H8 := Lib.hid (And.intro hs8 hx9)
              clear ht8 hs8 hx9 hx8 hx1
              go_wp2
              go_roundw
              case rel => exact ⟨j + 1, by omega, by go_num, H8.out.1, H8.out.2⟩
              case measure => simp [intOf]; omega
          · have hne : (x == y) = false := by simpa using hxy
            have HF := Lib.hid hF0
            clear hF0 hxy
            go_wp2
            refine wp_region_inv (by kernel_rfl) [.known ?hx8_2_v0, .known ?hx8_2_v1, .known ?hx8_2_v2, .known ?hx8_2_v3, .known ?hx8_2_v4, .known ?hx8_2_v5, .known ?hx8_2_v6] rfl (by kernel_rfl) ?hx8_2_s ?hx8_2_p
            case hx8_2_s =>
              intro vs
              refine ⟨fun w' hxw hj => ?_, fun w' hxw hj => ?_, fun w' hxw hj => ?_, fun w' hxw hj => ?_, fun w' hxw hj => ?_, fun w' hxw hj => ?_, fun w' hxw hj => ?_, trivial⟩
              · have hcA' := Ext.cell_some hxw hcA'
                have hcB' := Ext.cell_some hxw hcB'
                have hsp := Ext.cell_some hxw hsp
                clear hj
                go_simp
                try go_bits
                first | rfl | (rw [if_pos (by omega), if_pos (by omega)]; go_simp; rfl) | (rw [if_pos (by omega)]; go_simp; rfl) | skip
              · have hcA' := Ext.cell_some hxw hcA'
                have hcB' := Ext.cell_some hxw hcB'
                have hsp := Ext.cell_some hxw hsp
                clear hj
                go_simp
                try go_bits
                first | rfl | (rw [if_pos (by omega), if_pos (by omega)]; go_simp; rfl) | (rw [if_pos (by omega)]; go_simp; rfl) | skip
              · have hcA' := Ext.cell_some hxw hcA'
                have hcB' := Ext.cell_some hxw hcB'
                have hsp := Ext.cell_some hxw hsp
                clear hj
                go_simp
                try go_bits
                first | rfl | (rw [if_pos (by omega), if_pos (by omega)]; go_simp; rfl) | (rw [if_pos (by omega)]; go_simp; rfl) | skip
              · have hcA' := Ext.cell_some hxw hcA'
                have hcB' := Ext.cell_some hxw hcB'
                have hsp := Ext.cell_some hxw hsp
                clear hj
                go_simp
                try go_bits
                first | rfl | (rw [if_pos (by omega), if_pos (by omega)]; go_simp; rfl) | (rw [if_pos (by omega)]; go_simp; rfl) | skip
              · have hcA' := Ext.cell_some hxw hcA'
                have hcB' := Ext.cell_some hxw hcB'
                have hsp := Ext.cell_some hxw hsp
                clear hj
                go_simp
                try go_bits
                first | rfl | (rw [if_pos (by omega), if_pos (by omega)]; go_simp; rfl) | (rw [if_pos (by omega)]; go_simp; rfl) | skip
              · have hcA' := Ext.cell_some hxw hcA'
                have hcB' := Ext.cell_some hxw hcB'
                have hsp := Ext.cell_some hxw hsp
                clear hj
                go_simp
                try go_bits
                first | rfl | (rw [if_pos (by omega), if_pos (by omega)]; go_simp; rfl) | (rw [if_pos (by omega)]; go_simp; rfl) | skip
              · have hcA' := Ext.cell_some hxw hcA'
                have hcB' := Ext.cell_some hxw hcB'
                have hsp := Ext.cell_some hxw hsp
                clear hj
                go_simp
                try go_bits
                first | rfl | (rw [if_pos (by omega), if_pos (by omega)]; go_simp; rfl) | (rw [if_pos (by omega)]; go_simp; rfl) | skip
            case' hx8_2_p =>
              intro vs w8 hx8 hk
              clear hk
              replace hcA' := Ext.cell_some hx8 hcA'
              replace hcB' := Ext.cell_some hx8 hcB'
              replace hsp := Ext.cell_some hx8 hsp
              replace hx1 := Ext.trans hx1 hx8
              go_simp
              have ht8 := HT.out.1.ext hx8
              rw [fill_skip1 HF.out] at ht8
              have H8 := Lib.hid ht8
              clear ht8 hx8
              go_wp2
              go_roundw
              case rel => exact ⟨j + 1, by omega, by go_num, H8.out, hx1⟩
              case measure => simp [intOf]; omega
        · have hjL : j = L := by omega
          rw [hjL, fill_row (d := 0) (fun q _ _ => by omega) (fun q h => by omega)] at ht
          have HT := Lib.hid ht
          clear ht
          subst hjL
          go_wp2
          go_roundw
          case rel => exact ⟨i + 1, by omega, by go_num, HT.out, hx1⟩
          case measure => simp [intOf]; omega
    · have hiL : i = L := by omega
      rw [hiL, fill_all (Nat.le_refl _)] at ht
      have htl : (tabF L L F).length = L := tabF_length _ _ _
      have HT := Lib.hid (And.intro (ht.mono hx.size) htl)
      clear ht htl
      subst hiL
      go_wp2
      go_ret2
      exact ⟨_, by rw [HM.out.2.2.1]; rfl, by rw [HM.out.2.2.1]; exact .inr ⟨g, cap, gs, cs, by rw [Option.getD_some, HT.out.2]; rfl, by rw [Option.getD_some, HT.out.2]; exact HT.out.1⟩, hx.trans hx1⟩

set_option maxRecDepth 100000 in
set_option maxHeartbeats 4000000 in
theorem spec_BlockGraph_any (v : Value) (m : List (List Int)) (w : World) (h : ReadsRows w v m) :
    Calls Try.prog 47 #[v] w fun e w' => ∃ u, e = .returned (.tuple #[u, .bool (blkO m).isSome]) ∧ ReadsRows w' u ((blkO m).getD []) ∧ Ext w w' := by
  have ha := spec_ArcsOf_any v m w h
  have hno := blkO_no (m := m)
  have hyes := blkO_yes (m := m)
  have htwo := arcsG_two m
  obtain ⟨l, hl⟩ : ∃ l, l = arcsG m := ⟨_, rfl⟩
  rw [← hl] at ha hno hyes htwo
  have HA := Lib.hid (And.intro ha (And.intro hno (And.intro hyes htwo)))
  clear ha hno hyes htwo hl
  go_enter Try.func47, Try.ntmps47
  go_wp2_with fail
  with_reducible refine HA.out.1.mono ?_
  rintro e w1 ⟨u, rfl, hrd, hx⟩
  obtain ⟨pa, ca, rfl⟩ := hrd.slice
  obtain ⟨-, hlc1, hlc2⟩ := hrd.len
  have hno := HA.out.2.1
  have hyes := HA.out.2.2.1
  have htwo := HA.out.2.2.2
  obtain ⟨L, hL⟩ : ∃ L, L = l.length := ⟨_, rfl⟩
  rw [← hL] at hrd hlc1 hno hyes htwo ⊢
  by_cases hL9 : 1 ≤ L ∧ L ≤ 9
  rotate_left
  · have HN := Lib.hid (hno hL9)
    have hin := spec_l1In_no (L : Int) 1 9 w1 (by omega)
    clear hno hyes htwo hrd hL hL9
    go_wp2_with fail
    with_reducible refine hin.mono ?_
    rintro e w' ⟨rfl, rfl⟩
    go_wp2
    go_ret2
    exact ⟨_, by rw [HN.out]; rfl, by rw [HN.out]; exact spec_nil_rows _, Ext.trans hx (Ext.alloc _ _)⟩
  obtain ⟨hL1, hL9⟩ := hL9
  have hin := spec_l1In_yes (L : Int) 1 9 w1 (by omega) (by omega)
  have hz := spec_l4Zero_any L L w1 (by omega) (by omega)
  have hz0 : tabF L L (fun _ _ => 0) = tabF L L (maskF (doneB 0 0) (blkF l)) := (fill_zero (fun _ _ h _ => by omega) (fun _ h => by omega)).symm
  rw [hz0] at hz
  have hor := blkF_or l
  obtain ⟨F, hF⟩ : ∃ F, F = blkF l := ⟨_, rfl⟩
  rw [← hF] at hz hyes hor
  have HM := Lib.hid (And.intro hrd (And.intro hL (And.intro (hyes (by omega) (by omega)) (And.intro htwo (And.intro hz (And.intro hor hin))))))
  clear hno hyes htwo hrd hL hz hz0 hor hF hin
  go_wp2_with (first | (go_at_call 64; with_reducible refine HM.out.2.2.2.2.2.2.mono ?_; rintro e w' ⟨rfl, rfl⟩) | (go_at_call 77; with_reducible refine HM.out.2.2.2.2.1.mono ?_; rintro e w2 ⟨g, cap, gs, cs, rfl, ht, hx2⟩))
  go_loopw [6] (fun q wr => ∃ k : Nat, k ≤ L ∧ q = .int .i64 k ∧ MTab wr w1.heap.size 22 3 g L cap gs cs (tabF L L (maskF (doneB k 0) F)) ∧ Ext w1 wr) (fun q _ => L - (intOf q).toNat)
  case atStart => exact ⟨0, by omega, rfl, ht, hx2⟩
  case round =>
    clear ht hx2
    obtain ⟨i, hi, rfl, ht, hx1⟩ := hrel
    by_cases hlti : i < L
    · obtain ⟨bk, o, a', c', rfl, hcA, hrow⟩ := HM.out.1.at i (by rw [← HM.out.2.1]; exact hlti)
      have hli := HM.out.2.2.2.1 i hlti
      obtain ⟨b', o', rfl, hcA'⟩ := hrow.at 1 (by rw [hli]; omega)
      rw [hli] at hcA hrow
      have hlc := hrow.len.2.1
      have HC := Lib.hid (And.intro hcA' hcA)
      have HT := Lib.hid ht
      clear hcA' hrow ht hli hcA
      go_wp2
      go_loopw [7] (fun q wr => ∃ k : Nat, k ≤ L ∧ q = .int .i64 k ∧ MTab wr w1.heap.size 22 3 g L cap gs cs (tabF L L (maskF (doneB i k) F)) ∧ Ext w1 wr) (fun q _ => L - (intOf q).toNat)
      case atStart => exact ⟨0, by omega, rfl, HT.out, hx1⟩
      case round =>
        clear hx1 HT
        obtain ⟨j, hj, rfl, ht, hx1⟩ := hrel
        by_cases hltj : j < L
        · obtain ⟨bk2, o2, a2, c2, e, hcB, hrow2⟩ := HM.out.1.at j (by rw [← HM.out.2.1]; exact hltj)
          cases e
          have hlj := HM.out.2.2.2.1 j hltj
          obtain ⟨b2, o2', rfl, hcB'⟩ := hrow2.at 0 (by rw [hlj]; omega)
          rw [hlj] at hcB hrow2
          rw [Nat.add_zero] at hcB'
          have hlc2 := hrow2.len.2.1
          have hcA' := hx1.cell_some HC.out.1
          have hcA := hx1.cell_some HC.out.2
          replace hcB := hx1.cell_some hcB
          replace hcB' := hx1.cell_some hcB'
          obtain ⟨x, hxx⟩ : ∃ x, x = (l.getD i []).getD 1 0 := ⟨_, rfl⟩
          obtain ⟨y, hyy⟩ : ∃ x, x = (l.getD j []).getD 0 0 := ⟨_, rfl⟩
          have hor := HM.out.2.2.2.2.2.1 i j
          rw [← hxx] at hcA' hor
          rw [← hyy] at hcB' hor
          have hkR : i < (tabF L L (maskF (doneB i j) F)).length := by rw [tabF_length]; exact hlti
          have hsp := ht.spot i hkR
          have hcp := (ht.row i hkR).caps.1
          rw [tabF_row_length hlti] at hsp hcp
          have HT := Lib.hid (And.intro ht hkR)
          clear ht hkR hxx hyy hrow2 hlj
          rcases hor with ⟨hFv, hxy⟩ | ⟨hFv, hxy⟩
          · subst hxy
            have HF := Lib.hid hFv
            clear hFv
            go_wp2
            refine wp_region_tail (by kernel_rfl) 20 [.known ?hx8_3_v0, .known ?hx8_3_v1, .known ?hx8_3_v2, .known ?hx8_3_v3, .known ?hx8_3_v4, .known ?hx8_3_v5, .known ?hx8_3_v6, .known ?hx8_3_v7, .known ?hx8_3_v8, .known ?hx8_3_v9, .known ?hx8_3_v10, .known ?hx8_3_v11, .known ?hx8_3_v12, .known ?hx8_3_v13, .known ?hx8_3_v14, .known ?hx8_3_v15, .known ?hx8_3_v16, .known ?hx8_3_v17, .known (.int .i64 1), .known ?hx8_3_v19] rfl (by decide) (by kernel_rfl) (by kernel_rfl) ?hx8_3_s ?hx8_3_p
            case hx8_3_s =>
              intro vs
              refine ⟨fun w' hxw hj => ?_, fun w' hxw hj => ?_, fun w' hxw hj => ?_, fun w' hxw hj => ?_, fun w' hxw hj => ?_, fun w' hxw hj => ?_, fun w' hxw hj => ?_, fun w' hxw hj => ?_, fun w' hxw hj => ?_, fun w' hxw hj => ?_, fun w' hxw hj => ?_, fun w' hxw hj => ?_, fun w' hxw hj => ?_, fun w' hxw hj => ?_, fun w' hxw hj => ?_, fun w' hxw hj => ?_, fun w' hxw hj => ?_, fun w' hxw hj => ?_, fun w' hxw hj => ?_, fun w' hxw hj => ?_, trivial⟩
              · have hcA := Ext.cell_some hxw hcA
                have hcA' := Ext.cell_some hxw hcA'
                have hcB := Ext.cell_some hxw hcB
                have hcB' := Ext.cell_some hxw hcB'
                have hsp := Ext.cell_some hxw hsp
                clear hj
                go_simp
                try go_bits
                first | rfl | (rw [if_pos (by omega), if_pos (by omega)]; go_simp; rfl) | (rw [if_pos (by omega)]; go_simp; rfl) | skip
              · have hcA := Ext.cell_some hxw hcA
                have hcA' := Ext.cell_some hxw hcA'
                have hcB := Ext.cell_some hxw hcB
                have hcB' := Ext.cell_some hxw hcB'
                have hsp := Ext.cell_some hxw hsp
                clear hj
                go_simp
                try go_bits
                first | rfl | (rw [if_pos (by omega), if_pos (by omega)]; go_simp; rfl) | (rw [if_pos (by omega)]; go_simp; rfl) | skip
              · have hcA := Ext.cell_some hxw hcA
                have hcA' := Ext.cell_some hxw hcA'
                have hcB := Ext.cell_some hxw hcB
                have hcB' := Ext.cell_some hxw hcB'
                have hsp := Ext.cell_some hxw hsp
                clear hj
                go_simp
                try go_bits
                first | rfl | (rw [if_pos (by omega), if_pos (by omega)]; go_simp; rfl) | (rw [if_pos (by omega)]; go_simp; rfl) | skip
              · have hcA := Ext.cell_some hxw hcA
                have hcA' := Ext.cell_some hxw hcA'
                have hcB := Ext.cell_some hxw hcB
                have hcB' := Ext.cell_some hxw hcB'
                have hsp := Ext.cell_some hxw hsp
                clear hj
                go_simp
                try go_bits
                first | rfl | (rw [if_pos (by omega), if_pos (by omega)]; go_simp; rfl) | (rw [if_pos (by omega)]; go_simp; rfl) | skip
              · have hcA := Ext.cell_some hxw hcA
                have hcA' := Ext.cell_some hxw hcA'
                have hcB := Ext.cell_some hxw hcB
                have hcB' := Ext.cell_some hxw hcB'
                have hsp := Ext.cell_some hxw hsp
                clear hj
                go_simp
                try go_bits
                first | rfl | (rw [if_pos (by omega), if_pos (by omega)]; go_simp; rfl) | (rw [if_pos (by omega)]; go_simp; rfl) | skip
              · have hcA := Ext.cell_some hxw hcA
                have hcA' := Ext.cell_some hxw hcA'
                have hcB := Ext.cell_some hxw hcB
                have hcB' := Ext.cell_some hxw hcB'
                have hsp := Ext.cell_some hxw hsp
                clear hj
                go_simp
                try go_bits
                first | rfl | (rw [if_pos (by omega), if_pos (by omega)]; go_simp; rfl) | (rw [if_pos (by omega)]; go_simp; rfl) | skip
              · have hcA := Ext.cell_some hxw hcA
                have hcA' := Ext.cell_some hxw hcA'
                have hcB := Ext.cell_some hxw hcB
                have hcB' := Ext.cell_some hxw hcB'
                have hsp := Ext.cell_some hxw hsp
                clear hj
                go_simp
                try go_bits
                first | rfl | (rw [if_pos (by omega), if_pos (by omega)]; go_simp; rfl) | (rw [if_pos (by omega)]; go_simp; rfl) | skip
              · have hcA := Ext.cell_some hxw hcA
                have hcA' := Ext.cell_some hxw hcA'
                have hcB := Ext.cell_some hxw hcB
                have hcB' := Ext.cell_some hxw hcB'
                have hsp := Ext.cell_some hxw hsp
                clear hj
                go_simp
                try go_bits
                first | rfl | (rw [if_pos (by omega), if_pos (by omega)]; go_simp; rfl) | (rw [if_pos (by omega)]; go_simp; rfl) | skip
              · have hcA := Ext.cell_some hxw hcA
                have hcA' := Ext.cell_some hxw hcA'
                have hcB := Ext.cell_some hxw hcB
                have hcB' := Ext.cell_some hxw hcB'
                have hsp := Ext.cell_some hxw hsp
                clear hj
                go_simp
                try go_bits
                first | rfl | (rw [if_pos (by omega), if_pos (by omega)]; go_simp; rfl) | (rw [if_pos (by omega)]; go_simp; rfl) | skip
              · have hcA := Ext.cell_some hxw hcA
                have hcA' := Ext.cell_some hxw hcA'
                have hcB := Ext.cell_some hxw hcB
                have hcB' := Ext.cell_some hxw hcB'
                have hsp := Ext.cell_some hxw hsp
                clear hj
                go_simp
                try go_bits
                first | rfl | (rw [if_pos (by omega), if_pos (by omega)]; go_simp; rfl) | (rw [if_pos (by omega)]; go_simp; rfl) | skip
              · have hcA := Ext.cell_some hxw hcA
                have hcA' := Ext.cell_some hxw hcA'
                have hcB := Ext.cell_some hxw hcB
                have hcB' := Ext.cell_some hxw hcB'
                have hsp := Ext.cell_some hxw hsp
                clear hj
                go_simp
                try go_bits
                first | rfl | (rw [if_pos (by omega), if_pos (by omega)]; go_simp; rfl) | (rw [if_pos (by omega)]; go_simp; rfl) | skip
              · have hcA := Ext.cell_some hxw hcA
                have hcA' := Ext.cell_some hxw hcA'
                have hcB := Ext.cell_some hxw hcB
                have hcB' := Ext.cell_some hxw hcB'
                have hsp := Ext.cell_some hxw hsp
                clear hj
                go_simp
                try go_bits
                first | rfl | (rw [if_pos (by omega), if_pos (by omega)]; go_simp; rfl) | (rw [if_pos (by omega)]; go_simp; rfl) | skip
              · have hcA := Ext.cell_some hxw hcA
                have hcA' := Ext.cell_some hxw hcA'
                have hcB := Ext.cell_some hxw hcB
                have hcB' := Ext.cell_some hxw hcB'
                have hsp := Ext.cell_some hxw hsp
                clear hj
                go_simp
                try go_bits
                first | rfl | (rw [if_pos (by omega), if_pos (by omega)]; go_simp; rfl) | (rw [if_pos (by omega)]; go_simp; rfl) | skip
              · have hcA := Ext.cell_some hxw hcA
                have hcA' := Ext.cell_some hxw hcA'
                have hcB := Ext.cell_some hxw hcB
                have hcB' := Ext.cell_some hxw hcB'
                have hsp := Ext.cell_some hxw hsp
                clear hj
                go_simp
                try go_bits
                first | rfl | (rw [if_pos (by omega), if_pos (by omega)]; go_simp; rfl) | (rw [if_pos (by omega)]; go_simp; rfl) | skip
              · have hcA := Ext.cell_some hxw hcA
                have hcA' := Ext.cell_some hxw hcA'
                have hcB := Ext.cell_some hxw hcB
                have hcB' := Ext.cell_some hxw hcB'
                have hsp := Ext.cell_some hxw hsp
                clear hj
                go_simp
                try go_bits
                first | rfl | (rw [if_pos (by omega), if_pos (by omega)]; go_simp; rfl) | (rw [if_pos (by omega)]; go_simp; rfl) | skip
              · have hcA := Ext.cell_some hxw hcA
                have hcA' := Ext.cell_some hxw hcA'
                have hcB := Ext.cell_some hxw hcB
                have hcB' := Ext.cell_some hxw hcB'
                have hsp := Ext.cell_some hxw hsp
                clear hj
                go_simp
                try go_bits
                first | rfl | (rw [if_pos (by omega), if_pos (by omega)]; go_simp; rfl) | (rw [if_pos (by omega)]; go_simp; rfl) | skip
              · have hcA := Ext.cell_some hxw hcA
                have hcA' := Ext.cell_some hxw hcA'
                have hcB := Ext.cell_some hxw hcB
                have hcB' := Ext.cell_some hxw hcB'
                have hsp := Ext.cell_some hxw hsp
                clear hj
                go_simp
                try go_bits
                first | rfl | (rw [if_pos (by omega), if_pos (by omega)]; go_simp; rfl) | (rw [if_pos (by omega)]; go_simp; rfl) | skip
              · have hcA := Ext.cell_some hxw hcA
                have hcA' := Ext.cell_some hxw hcA'
                have hcB := Ext.cell_some hxw hcB
                have hcB' := Ext.cell_some hxw hcB'
                have hsp := Ext.cell_some hxw hsp
                clear hj
                go_simp
                try go_bits
                first | rfl | (rw [if_pos (by omega), if_pos (by omega)]; go_simp; rfl) | (rw [if_pos (by omega)]; go_simp; rfl) | skip
              · have hcA := Ext.cell_some hxw hcA
                have hcA' := Ext.cell_some hxw hcA'
                have hcB := Ext.cell_some hxw hcB
                have hcB' := Ext.cell_some hxw hcB'
                have hsp := Ext.cell_some hxw hsp
                clear hj
                go_simp
                try go_bits
                exact (spec_l1Bit_any true _).mono fun _ _ ⟨h1, h2⟩ => ⟨h1, h2 ▸ Ext.refl _⟩
              · have hcA := Ext.cell_some hxw hcA
                have hcA' := Ext.cell_some hxw hcA'
                have hcB := Ext.cell_some hxw hcB
                have hcB' := Ext.cell_some hxw hcB'
                have hsp := Ext.cell_some hxw hsp
                clear hj
                go_simp
                try go_bits
                first | rfl | (rw [if_pos (by omega), if_pos (by omega)]; go_simp; rfl) | (rw [if_pos (by omega)]; go_simp; rfl) | skip
            case' hx8_3_p =>
              intro vs w8 hx8 hk
              clear hk
              replace hcA := Ext.cell_some hx8 hcA
              replace hcA' := Ext.cell_some hx8 hcA'
              replace hcB := Ext.cell_some hx8 hcB
              replace hcB' := Ext.cell_some hx8 hcB'
              replace hsp := Ext.cell_some hx8 hsp
              replace hx1 := Ext.trans hx1 hx8
              go_simp
              have ht8 := HT.out.1.ext hx8
              have hc8 := ht8.at i j HT.out.2 (by rw [tabF_row_length hlti]; exact hltj)
              have hf8 := ht8.frozen i j HT.out.2
              have hs8 := ht8.set i j HT.out.2 1
              rw [← HF.out, fill_set hlti, HF.out] at hs8
              have hx9 := hx1.setCell (p := ⟨gs i, j, none⟩) (ht8.rowlt i HT.out.2).1 (.int .i64 1)
              have H8 := Lib.hid (And.intro hs8 hx9)
              clear ht8 hs8 hx9 hx8 hx1
              go_wp2
              go_roundw
              case rel => exact ⟨j + 1, by omega, by go_num, H8.out.1, H8.out.2⟩
              case measure => simp [intOf]; omega
          · have hne : (x == y) = false := by simpa using hxy
            clear hxy
            have HF := Lib.hid hFv
            clear hFv
            go_wp2
            refine wp_region_tail (by kernel_rfl) 20 [.known ?hx8_4_v0, .known ?hx8_4_v1, .known ?hx8_4_v2, .known ?hx8_4_v3, .known ?hx8_4_v4, .known ?hx8_4_v5, .known ?hx8_4_v6, .known ?hx8_4_v7, .known ?hx8_4_v8, .known ?hx8_4_v9, .known ?hx8_4_v10, .known ?hx8_4_v11, .known ?hx8_4_v12, .known ?hx8_4_v13, .known ?hx8_4_v14, .known ?hx8_4_v15, .known ?hx8_4_v16, .known ?hx8_4_v17, .known (.int .i64 0), .known ?hx8_4_v19] rfl (by decide) (by kernel_rfl) (by kernel_rfl) ?hx8_4_s ?hx8_4_p
            case hx8_4_s =>
              intro vs
              refine ⟨fun w' hxw hj => ?_, fun w' hxw hj => ?_, fun w' hxw hj => ?_, fun w' hxw hj => ?_, fun w' hxw hj => ?_, fun w' hxw hj => ?_, fun w' hxw hj => ?_, fun w' hxw hj => ?_, fun w' hxw hj => ?_, fun w' hxw hj => ?_, fun w' hxw hj => ?_, fun w' hxw hj => ?_, fun w' hxw hj => ?_, fun w' hxw hj => ?_, fun w' hxw hj => ?_, fun w' hxw hj => ?_, fun w' hxw hj => ?_, fun w' hxw hj => ?_, fun w' hxw hj => ?_, fun w' hxw hj => ?_, trivial⟩
              · have hcA := Ext.cell_some hxw hcA
                have hcA' := Ext.cell_some hxw hcA'
                have hcB := Ext.cell_some hxw hcB
                have hcB' := Ext.cell_some hxw hcB'
                have hsp := Ext.cell_some hxw hsp
                clear hj
                go_simp
                try go_bits
                first | rfl | (rw [if_pos (by omega), if_pos (by omega)]; go_simp; rfl) | (rw [if_pos (by omega)]; go_simp; rfl) | skip
              · have hcA := Ext.cell_some hxw hcA
                have hcA' := Ext.cell_some hxw hcA'
                have hcB := Ext.cell_some hxw hcB
                have hcB' := Ext.cell_some hxw hcB'
                have hsp := Ext.cell_some hxw hsp
                clear hj
                go_simp
                try go_bits
                first | rfl | (rw [if_pos (by omega), if_pos (by omega)]; go_simp; rfl) | (rw [if_pos (by omega)]; go_simp; rfl) | skip
              · have hcA := Ext.cell_some hxw hcA
                have hcA' := Ext.cell_some hxw hcA'
                have hcB := Ext.cell_some hxw hcB
                have hcB' := Ext.cell_some hxw hcB'
                have hsp := Ext.cell_some hxw hsp
                clear hj
                go_simp
                try go_bits
                first | rfl | (rw [if_pos (by omega), if_pos (by omega)]; go_simp; rfl) | (rw [if_pos (by omega)]; go_simp; rfl) | skip
              · have hcA := Ext.cell_some hxw hcA
                have hcA' := Ext.cell_some hxw hcA'
                have hcB := Ext.cell_some hxw hcB
                have hcB' := Ext.cell_some hxw hcB'
                have hsp := Ext.cell_some hxw hsp
                clear hj
                go_simp
                try go_bits
                first | rfl | (rw [if_pos (by omega), if_pos (by omega)]; go_simp; rfl) | (rw [if_pos (by omega)]; go_simp; rfl) | skip
              · have hcA := Ext.cell_some hxw hcA
                have hcA' := Ext.cell_some hxw hcA'
                have hcB := Ext.cell_some hxw hcB
                have hcB' := Ext.cell_some hxw hcB'
                have hsp := Ext.cell_some hxw hsp
                clear hj
                go_simp
                try go_bits
                first | rfl | (rw [if_pos (by omega), if_pos (by omega)]; go_simp; rfl) | (rw [if_pos (by omega)]; go_simp; rfl) | skip
              · have hcA := Ext.cell_some hxw hcA
                have hcA' := Ext.cell_some hxw hcA'
                have hcB := Ext.cell_some hxw hcB
                have hcB' := Ext.cell_some hxw hcB'
                have hsp := Ext.cell_some hxw hsp
                clear hj
                go_simp
                try go_bits
                first | rfl | (rw [if_pos (by omega), if_pos (by omega)]; go_simp; rfl) | (rw [if_pos (by omega)]; go_simp; rfl) | skip
              · have hcA := Ext.cell_some hxw hcA
                have hcA' := Ext.cell_some hxw hcA'
                have hcB := Ext.cell_some hxw hcB
                have hcB' := Ext.cell_some hxw hcB'
                have hsp := Ext.cell_some hxw hsp
                clear hj
                go_simp
                try go_bits
                first | rfl | (rw [if_pos (by omega), if_pos (by omega)]; go_simp; rfl) | (rw [if_pos (by omega)]; go_simp; rfl) | skip
              · have hcA := Ext.cell_some hxw hcA
                have hcA' := Ext.cell_some hxw hcA'
                have hcB := Ext.cell_some hxw hcB
                have hcB' := Ext.cell_some hxw hcB'
                have hsp := Ext.cell_some hxw hsp
                clear hj
                go_simp
                try go_bits
                first | rfl | (rw [if_pos (by omega), if_pos (by omega)]; go_simp; rfl) | (rw [if_pos (by omega)]; go_simp; rfl) | skip
              · have hcA := Ext.cell_some hxw hcA
                have hcA' := Ext.cell_some hxw hcA'
                have hcB := Ext.cell_some hxw hcB
                have hcB' := Ext.cell_some hxw hcB'
                have hsp := Ext.cell_some hxw hsp
                clear hj
                go_simp
                try go_bits
                first | rfl | (rw [if_pos (by omega), if_pos (by omega)]; go_simp; rfl) | (rw [if_pos (by omega)]; go_simp; rfl) | skip
              · have hcA := Ext.cell_some hxw hcA
                have hcA' := Ext.cell_some hxw hcA'
                have hcB := Ext.cell_some hxw hcB
                have hcB' := Ext.cell_some hxw hcB'
                have hsp := Ext.cell_some hxw hsp
                clear hj
                go_simp
                try go_bits
                first | rfl | (rw [if_pos (by omega), if_pos (by omega)]; go_simp; rfl) | (rw [if_pos (by omega)]; go_simp; rfl) | skip
              · have hcA := Ext.cell_some hxw hcA
                have hcA' := Ext.cell_some hxw hcA'
                have hcB := Ext.cell_some hxw hcB
                have hcB' := Ext.cell_some hxw hcB'
                have hsp := Ext.cell_some hxw hsp
                clear hj
                go_simp
                try go_bits
                first | rfl | (rw [if_pos (by omega), if_pos (by omega)]; go_simp; rfl) | (rw [if_pos (by omega)]; go_simp; rfl) | skip
              · have hcA := Ext.cell_some hxw hcA
                have hcA' := Ext.cell_some hxw hcA'
                have hcB := Ext.cell_some hxw hcB
                have hcB' := Ext.cell_some hxw hcB'
                have hsp := Ext.cell_some hxw hsp
                clear hj
                go_simp
                try go_bits
                first | rfl | (rw [if_pos (by omega), if_pos (by omega)]; go_simp; rfl) | (rw [if_pos (by omega)]; go_simp; rfl) | skip
              · have hcA := Ext.cell_some hxw hcA
                have hcA' := Ext.cell_some hxw hcA'
                have hcB := Ext.cell_some hxw hcB
                have hcB' := Ext.cell_some hxw hcB'
                have hsp := Ext.cell_some hxw hsp
                clear hj
                go_simp
                try go_bits
                first | rfl | (rw [if_pos (by omega), if_pos (by omega)]; go_simp; rfl) | (rw [if_pos (by omega)]; go_simp; rfl) | skip
              · have hcA := Ext.cell_some hxw hcA
                have hcA' := Ext.cell_some hxw hcA'
                have hcB := Ext.cell_some hxw hcB
                have hcB' := Ext.cell_some hxw hcB'
                have hsp := Ext.cell_some hxw hsp
                clear hj
                go_simp
                try go_bits
                first | rfl | (rw [if_pos (by omega), if_pos (by omega)]; go_simp; rfl) | (rw [if_pos (by omega)]; go_simp; rfl) | skip
              · have hcA := Ext.cell_some hxw hcA
                have hcA' := Ext.cell_some hxw hcA'
                have hcB := Ext.cell_some hxw hcB
                have hcB' := Ext.cell_some hxw hcB'
                have hsp := Ext.cell_some hxw hsp
                clear hj
                go_simp
                try go_bits
                first | rfl | (rw [if_pos (by omega), if_pos (by omega)]; go_simp; rfl) | (rw [if_pos (by omega)]; go_simp; rfl) | skip
              · have hcA := Ext.cell_some hxw hcA
                have hcA' := Ext.cell_some hxw hcA'
                have hcB := Ext.cell_some hxw hcB
                have hcB' := Ext.cell_some hxw hcB'
                have hsp := Ext.cell_some hxw hsp
                clear hj
                go_simp
                try go_bits
                first | rfl | (rw [if_pos (by omega), if_pos (by omega)]; go_simp; rfl) | (rw [if_pos (by omega)]; go_simp; rfl) | skip
              · have hcA := Ext.cell_some hxw hcA
                have hcA' := Ext.cell_some hxw hcA'
                have hcB := Ext.cell_some hxw hcB
                have hcB' := Ext.cell_some hxw hcB'
                have hsp := Ext.cell_some hxw hsp
                clear hj
                go_simp
                try go_bits
                first | rfl | (rw [if_pos (by omega), if_pos (by omega)]; go_simp; rfl) | (rw [if_pos (by omega)]; go_simp; rfl) | skip
              · have hcA := Ext.cell_some hxw hcA
                have hcA' := Ext.cell_some hxw hcA'
                have hcB := Ext.cell_some hxw hcB
                have hcB' := Ext.cell_some hxw hcB'
                have hsp := Ext.cell_some hxw hsp
                clear hj
                go_simp
                try go_bits
                first | rfl | (rw [if_pos (by omega), if_pos (by omega)]; go_simp; rfl) | (rw [if_pos (by omega)]; go_simp; rfl) | skip
              · have hcA := Ext.cell_some hxw hcA
                have hcA' := Ext.cell_some hxw hcA'
                have hcB := Ext.cell_some hxw hcB
                have hcB' := Ext.cell_some hxw hcB'
                have hsp := Ext.cell_some hxw hsp
                clear hj
                go_simp
                try go_bits
                exact (spec_l1Bit_any false _).mono fun _ _ ⟨h1, h2⟩ => ⟨h1, h2 ▸ Ext.refl _⟩
              · have hcA := Ext.cell_some hxw hcA
                have hcA' := Ext.cell_some hxw hcA'
                have hcB := Ext.cell_some hxw hcB
                have hcB' := Ext.cell_some hxw hcB'
                have hsp := Ext.cell_some hxw hsp
                clear hj
                go_simp
                try go_bits
                first | rfl | (rw [if_pos (by omega), if_pos (by omega)]; go_simp; rfl) | (rw [if_pos (by omega)]; go_simp; rfl) | skip
            case' hx8_4_p =>
              intro vs w8 hx8 hk
              clear hk
              replace hcA := Ext.cell_some hx8 hcA
              replace hcA' := Ext.cell_some hx8 hcA'
              replace hcB := Ext.cell_some hx8 hcB
              replace hcB' := Ext.cell_some hx8 hcB'
              replace hsp := Ext.cell_some hx8 hsp
              replace hx1 := Ext.trans hx1 hx8
              go_simp
              have ht8 := HT.out.1.ext hx8
              have hc8 := ht8.at i j HT.out.2 (by rw [tabF_row_length hlti]; exact hltj)
              have hf8 := ht8.frozen i j HT.out.2
              have hs8 := ht8.set i j HT.out.2 0
              rw [← HF.out, fill_set hlti, HF.out] at hs8
              have hx9 := hx1.setCell (p := ⟨gs i, j, none⟩) (ht8.rowlt i HT.out.2).1 (.int .i64 0)
              have H8 := Lib.hid (And.intro hs8 hx9)
              clear ht8 hs8 hx9 hx8 hx1
              go_wp2
              go_roundw
              case rel => exact ⟨j + 1, by omega, by go_num, H8.out.1, H8.out.2⟩
              case measure => simp [intOf]; omega
        · have hjL : j = L := by omega
          rw [hjL, fill_row (d := 0) (fun q _ _ => by omega) (fun q h => by omega)] at ht
          have HT := Lib.hid ht
          clear ht
          subst hjL
          go_wp2
          go_roundw
          case rel => exact ⟨i + 1, by omega, by go_num, HT.out, hx1⟩
          case measure => simp [intOf]; omega
    · have hiL : i = L := by omega
      rw [hiL, fill_all (Nat.le_refl _)] at ht
      have htl : (tabF L L F).length = L := tabF_length _ _ _
      have HT := Lib.hid (ht.reads htl.symm)
      clear ht htl
      subst hiL
      go_wp2
      go_ret2
      exact ⟨_, by rw [HM.out.2.2.1]; rfl, by rw [HM.out.2.2.1]; exact HT.out, hx.trans hx1⟩

def blkB (m n : List (List Int)) : Bool := match blkO m with
  | some x => decide (x = n)
  | none => false
theorem impl_IsBlockOf_any (v v' : Value) (m n : List (List Int)) (w : World) (h : ReadsRows w v m) (h' : ReadsRows w v' n) :
    Calls Try.prog 52 #[v, v'] w fun e w' => e = .returned (.bool (blkB m n)) ∧ Ext w w' := by
  have hb := impl_BlockGraph_any v m w h
  have HB := Lib.hid (And.intro hb h')
  have hv : ∀ x, blkO m = some x → blkB m n = decide (x = n) := fun x hx => by unfold blkB; rw [hx]
  have hv0 : blkO m = none → blkB m n = false := fun hx => by unfold blkB; rw [hx]
  cases ho : blkO m with
  | none =>
    rw [ho] at HB
    have HV := Lib.hid (hv0 ho)
    clear hb ho hv hv0
    go_enter Try.func52, Try.ntmps52
    go_wp2_with fail
    with_reducible refine HB.out.1.mono ?_
    rintro e w1 ⟨u, rfl, hres, hx⟩
    clear hres
    go_wp2
    go_ret
    exact ⟨by rw [HV.out]; rfl, hx⟩
  | some x =>
    rw [ho] at HB
    have HV := Lib.hid (hv x ho)
    clear hb ho hv hv0
    go_enter Try.func52, Try.ntmps52
    go_wp2_with fail
    with_reducible refine HB.out.1.mono ?_
    rintro e w1 ⟨u, rfl, hres, hx⟩
    have HR := Lib.hid (And.intro hres (HB.out.2.ext hx))
    clear hres
    go_wp2_with fail
    with_reducible refine (impl_EqualMatrix_any _ _ x n _ HR.out.1.reads HR.out.2).mono ?_
    rintro e w2 ⟨rfl, hx2⟩
    go_wp2
    go_ret
    exact ⟨by rw [HV.out]; rfl, hx.trans hx2⟩
theorem spec_IsBlockOf_any (v v' : Value) (m n : List (List Int)) (w : World) (h : ReadsRows w v m) (h' : ReadsRows w v' n) :
    Calls Try.prog 51 #[v, v'] w fun e w' => e = .returned (.bool (blkB m n)) ∧ Ext w w' := by
  have hb := spec_BlockGraph_any v m w h
  have HB := Lib.hid (And.intro hb h')
  have hv : ∀ x, blkO m = some x → blkB m n = decide (x = n) := fun x hx => by unfold blkB; rw [hx]
  have hv0 : blkO m = none → blkB m n = false := fun hx => by unfold blkB; rw [hx]
  cases ho : blkO m with
  | none =>
    rw [ho] at HB
    have HV := Lib.hid (hv0 ho)
    clear hb ho hv hv0
    go_enter Try.func51, Try.ntmps51
    go_wp2_with fail
    with_reducible refine HB.out.1.mono ?_
    rintro e w1 ⟨u, rfl, hres, hx⟩
    clear hres
    go_wp2
    go_ret
    exact ⟨by rw [HV.out]; rfl, hx⟩
  | some x =>
    rw [ho] at HB
    have HV := Lib.hid (hv x ho)
    clear hb ho hv hv0
    go_enter Try.func51, Try.ntmps51
    go_wp2_with fail
    with_reducible refine HB.out.1.mono ?_
    rintro e w1 ⟨u, rfl, hres, hx⟩
    have HR := Lib.hid (And.intro hres (HB.out.2.ext hx))
    clear hres
    go_wp2_with fail
    with_reducible refine (spec_EqualMatrix_any _ _ x n _ HR.out.1 HR.out.2).mono ?_
    rintro e w2 ⟨rfl, hx2⟩
    go_wp2
    go_ret
    exact ⟨by rw [HV.out]; rfl, hx.trans hx2⟩
theorem blkO_size (m : List (List Int)) : sizeM ((blkO m).getD []) ≤ 1000000000 := by
  cases h : blkO m with
  | none => simp [sizeM]
  | some r =>
    unfold blkO at h
    split at h
    · next hc =>
      have hb : isMat r = true := by
        rw [← Option.some.inj h]
        refine tabF_isMat hc.1 hc.2 fun i j _ _ => ?_
        rcases blkF_or (arcsG m) i j with h | h <;> omega
      have := isMat_size9 (isMat_yes hb)
      simp; omega
    · cases h
end Go.Proofs.Ytihidaeecfbngaa

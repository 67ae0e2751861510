/- Contracts: between which vertices there are paths, by the program and by the reference. -/
import Derived.Test.YtfiembmfkokllaaGreatPkC
import Derived.Test.YtfiembmfkokllaaGreatWarMath
namespace Go.Proofs.YtfiembmfkokllaaGreat
open Go.RowKit Go.Mx


set_option maxRecDepth 100000 in
set_option maxHeartbeats 8000000 in
theorem impl_reach_any (v : Value) (m : List (List Int)) (n : Nat) (w : World) (h : ReadsRows w v m) (hm : IsM n m) :
    Calls Tryz.prog 85 #[v] w fun e w' => ∃ u, e = .returned u ∧ ResM w' w.heap.size u (reachM m) ∧ Ext w w' := by
  obtain ⟨pa, ca, rfl⟩ := h.slice
  obtain ⟨-, hla1, hla2⟩ := h.len
  have hpn := hm.pos
  have hn9 := hm.le
  have hrM : reachM m = tabF n n fun i j => b2i (warF (arcB m) n i j) := by unfold reachM reachB; rw [hm.len]
  have hfin : tabF n n (warTo (arcB m) n 0 0) = reachM m := by rw [warTo_start, hrM]
  have hrl : (reachM m).length = n := by rw [hrM, tabF_length]
  have hst : tabF n n (fun i j => b2i (arcB m i j)) = tabF n n (warTo (arcB m) 0 0 0) := (warTo_start (arcB m) n 0).symm
  have hMv : ∀ i j, arcB m i j = decide (0 < (m.getD i []).getD j 0) := fun i j => rfl
  rw [hm.len] at h hla1 ⊢
  obtain ⟨M, hM⟩ : ∃ M, M = arcB m := ⟨_, rfl⟩
  rw [← hM] at hfin hst hMv
  have hz := impl_zeros_any n w (by omega)
  have hz0 : tabF n n (fun _ _ => 0) = tabF n n (maskF (doneB 0 0) fun i j => b2i (M i j)) := (fill_zero (fun _ _ h _ => by omega) (fun _ h => by omega)).symm
  rw [hz0] at hz
  have HM := Lib.hid (And.intro h (And.intro hm (And.intro hz (And.intro hfin (And.intro hrl (And.intro hst hMv))))))
  clear h hm hz hz0 hfin hrl hst hMv hM hrM
  go_enter Tryz.func85, Tryz.ntmps85
  go_wp2_with (go_at_call 35; with_reducible refine HM.out.2.2.1.mono ?_; rintro e w1 ⟨g, cap, gs, cs, rfl, ht, hx⟩)
  go_loopw [16] (fun q wr => ∃ k : Nat, k ≤ n ∧ q = .int .i64 k ∧ MTab wr w.heap.size 52 3 g n cap gs cs (tabF n n (maskF (doneB k 0) fun i j => b2i (M i j))) ∧ Ext w wr) (fun q _ => n - (intOf q).toNat)
  case atStart => exact ⟨0, by omega, rfl, ht, hx⟩
  case round =>
    clear ht hx
    obtain ⟨i, hi, rfl, ht, hx⟩ := hrel
    by_cases hlti : i < n
    · obtain ⟨bk, o, a', c', rfl, hcell, hrow⟩ := HM.out.1.at i (by rw [HM.out.2.1.len]; exact hlti)
      have hlr := HM.out.2.1.row i hlti
      obtain ⟨b', o', rfl, -⟩ := hrow.at 0 (by rw [hlr]; omega)
      rw [hlr] at hcell hrow
      have hlc := hrow.len.2.1
      replace hcell := hx.cell_some hcell
      have HR := Lib.hid (And.intro hrow hlr)
      have HT := Lib.hid ht
      clear hrow hlr ht
      go_wp2
      clear hcell
      go_loopw [23] (fun q wr => ∃ k : Nat, k ≤ n ∧ q = .int .i64 k ∧ MTab wr w.heap.size 52 3 g n cap gs cs (tabF n n (maskF (doneB i k) fun i j => b2i (M i j))) ∧ Ext w wr) (fun q _ => n - (intOf q).toNat)
      case atStart => exact ⟨0, by omega, rfl, HT.out, hx⟩
      case round =>
        clear HT hx
        obtain ⟨j, hj, rfl, ht, hx⟩ := hrel
        by_cases hltj : j < n
        · obtain ⟨_, _, e, hcell⟩ := (HR.out.1.ext hx).at j (by rw [HR.out.2]; exact hltj)
          cases e
          have hx0 := HM.out.2.1.low i j
          have hMv := HM.out.2.2.2.2.2.2 i j
          obtain ⟨x, hxx⟩ : ∃ x, x = (m.getD i []).getD j 0 := ⟨_, rfl⟩
          rw [← hxx] at hcell hx0 hMv
          have hkR : i < (tabF n n (maskF (doneB i j) fun i j => b2i (M i j))).length := by rw [tabF_length]; exact hlti
          have hsp := ht.spot i hkR
          have hcp := (ht.row i hkR).caps.1
          have hat := ht.at i j hkR (by rw [tabF_row_length hlti]; exact hltj)
          have hf := ht.frozen i j hkR
          have hset := fill_set (R := n) (C := n) (F := fun i j => b2i (M i j)) (j := j) hlti
          rw [tabF_row_length hlti] at hsp hcp
          rcases Int.lt_or_le x 1 with hx1 | hx1
          · have hx00 : x = 0 := by omega
            subst hx00
            have hst := ht.set i j hkR 0
            rw [show (0 : Int) = b2i (M i j) by rw [hMv]; rfl, hset] at hst
            have hx9 := hx.setCell (p := ⟨gs i, j, none⟩) (ht.rowlt i hkR).1 (.int .i64 0)
            rw [show b2i (M i j) = (0 : Int) by rw [hMv]; rfl] at hst
            have H8 := Lib.hid (And.intro hst hx9)
            clear hst hx9 ht hx hkR hset hxx hMv
            go_wp2
            go_roundw
            case rel => exact ⟨j + 1, by omega, by go_num, H8.out.1, H8.out.2⟩
            case measure => simp [intOf]; omega
          · rcases Int.lt_or_le 1 x with hx2 | hx2
            · skip
              have hst := ht.set i j hkR 1
              rw [show (1 : Int) = b2i (M i j) by rw [hMv]; rw [decide_eq_true (by omega)]; rfl, hset] at hst
              have hx9 := hx.setCell (p := ⟨gs i, j, none⟩) (ht.rowlt i hkR).1 (.int .i64 1)
              rw [show b2i (M i j) = (1 : Int) by rw [hMv]; rw [decide_eq_true (by omega)]; rfl] at hst
              have H8 := Lib.hid (And.intro hst hx9)
              clear hst hx9 ht hx hkR hset hxx hMv
              go_wp2
              go_roundw
              case rel => exact ⟨j + 1, by omega, by go_num, H8.out.1, H8.out.2⟩
              case measure => simp [intOf]; omega
            · have hx11 : x = 1 := by omega
              subst hx11
              have hst := ht.set i j hkR 1
              rw [show (1 : Int) = b2i (M i j) by rw [hMv]; rfl, hset] at hst
              have hx9 := hx.setCell (p := ⟨gs i, j, none⟩) (ht.rowlt i hkR).1 (.int .i64 1)
              rw [show b2i (M i j) = (1 : Int) by rw [hMv]; rfl] at hst
              have H8 := Lib.hid (And.intro hst hx9)
              clear hst hx9 ht hx hkR hset hxx hMv
              go_wp2
              go_roundw
              case rel => exact ⟨j + 1, by omega, by go_num, H8.out.1, H8.out.2⟩
              case measure => simp [intOf]; omega
        · have hjn : j = n := by omega
          rw [hjn, fill_row (d := 0) (fun q _ _ => by omega) (fun q h => by omega)] at ht
          have HT := Lib.hid ht
          clear ht
          subst hjn
          go_wp2
          go_roundw
          case rel => exact ⟨i + 1, by omega, by go_num, HT.out, hx⟩
          case measure => simp [intOf]; omega
    · have hin : i = n := by omega
      rw [hin, fill_all (Nat.le_refl _), HM.out.2.2.2.2.2.1] at ht
      have HT := Lib.hid ht
      clear ht hin
      go_wp2
      go_loopw [40] (fun q wr => ∃ k : Nat, k ≤ n ∧ q = .int .i64 k ∧ MTab wr w.heap.size 52 3 g n cap gs cs (tabF n n (warTo M k 0 0)) ∧ Ext w wr) (fun q _ => n - (intOf q).toNat)
      case atStart => exact ⟨0, by omega, rfl, HT.out, hx⟩
      case round =>
        clear HT hx
        obtain ⟨k, hk, rfl, ht, hx⟩ := hrel
        by_cases hltk : k < n
        · go_wp2
          go_loopw [45] (fun q wr => ∃ i : Nat, i ≤ n ∧ q = .int .i64 i ∧ MTab wr w.heap.size 52 3 g n cap gs cs (tabF n n (warTo M k i 0)) ∧ Ext w wr) (fun q _ => n - (intOf q).toNat)
          case atStart => exact ⟨0, by omega, rfl, ht, hx⟩
          case round =>
            clear ht hx
            obtain ⟨i, hi, rfl, ht, hx⟩ := hrel
            by_cases hlti : i < n
            · go_wp2
              go_loopw [50] (fun q wr => ∃ j : Nat, j ≤ n ∧ q = .int .i64 j ∧ MTab wr w.heap.size 52 3 g n cap gs cs (tabF n n (warTo M k i j)) ∧ Ext w wr) (fun q _ => n - (intOf q).toNat)
              case atStart => exact ⟨0, by omega, rfl, ht, hx⟩
              case round =>
                clear ht hx
                obtain ⟨j, hj, rfl, ht, hx⟩ := hrel
                by_cases hltj : j < n
                · skip
                  have hi' := hlti
                  have hkR : i < (tabF n n (warTo M k i j)).length := by rw [tabF_length]; exact hlti
                  have hkK : k < (tabF n n (warTo M k i j)).length := by rw [tabF_length]; exact hltk
                  have hspi := ht.spot i hkR
                  have hspk := ht.spot k hkK
                  have hcpi := (ht.row i hkR).caps.1
                  have hcpk := (ht.row k hkK).caps.1
                  have hc1 := ht.at i j hkR (by rw [tabF_row_length hlti]; exact hltj)
                  have hc2 := ht.at i k hkR (by rw [tabF_row_length hlti]; exact hltk)
                  have hc3 := ht.at k j hkK (by rw [tabF_row_length hltk]; exact hltj)
                  rw [warTo_at M n k i j hlti hltj] at hc1
                  rw [warTo_to M n k i j hlti hltk] at hc2
                  rw [warTo_from M n k i j hltk hltj] at hc3
                  rw [tabF_row_length hlti] at hspi hcpi
                  rw [tabF_row_length hltk] at hspk hcpk
                  have hset := warTo_set M n k i j hlti
                  have hwv : warF M (k + 1) i j = (warF M k i j || (warF M k i k && warF M k k j)) := rfl
                  rw [hwv] at hset
                  obtain ⟨b1, hb1⟩ : ∃ b, b = warF M k i j := ⟨_, rfl⟩
                  obtain ⟨b2, hb2⟩ : ∃ b, b = warF M k i k := ⟨_, rfl⟩
                  obtain ⟨b3, hb3⟩ : ∃ b, b = warF M k k j := ⟨_, rfl⟩
                  rw [← hb1] at hc1 hset
                  rw [← hb2] at hc2 hset
                  rw [← hb3] at hc3 hset
                  have HT := Lib.hid (And.intro ht (And.intro hkR hset))
                  clear ht hkR hkK hset hb1 hb2 hb3 hwv
                  go_wp2
                  refine wp_region_tail (by kernel_rfl) 29 (.known ?hx8_38_v0 :: .known ?hx8_38_v1 :: .known ?hx8_38_v2 :: .known ?hx8_38_v3 :: .known ?hx8_38_v4 :: .known ?hx8_38_v5 :: .known ?hx8_38_v6 :: .known ?hx8_38_v7 :: .known ?hx8_38_v8 :: .known ?hx8_38_v9 :: .known ?hx8_38_v10 :: .known ?hx8_38_v11 :: .known ?hx8_38_v12 :: .known ?hx8_38_v13 :: .known ?hx8_38_v14 :: .known ?hx8_38_v15 :: .known ?hx8_38_v16 :: .known ?hx8_38_v17 :: .known ?hx8_38_v18 :: .known ?hx8_38_v19 :: .known ?hx8_38_v20 :: .known ?hx8_38_v21 :: .known ?hx8_38_v22 :: .known ?hx8_38_v23 :: .known ?hx8_38_v24 :: .known ?hx8_38_v25 :: .known (.int .i64 (b2i (b2 && b3))) :: .known (.int .i64 (b2i (or b1 (b2 && b3)))) :: .known ?hx8_38_v28 :: []) rfl (by decide) (by kernel_rfl) (by kernel_rfl) ?hx8_38_s ?hx8_38_p
                  case hx8_38_s =>
                    intro vs
                    refine ⟨fun w' hxw hj => ?_, fun w' hxw hj => ?_, fun w' hxw hj => ?_, fun w' hxw hj => ?_, fun w' hxw hj => ?_, fun w' hxw hj => ?_, fun w' hxw hj => ?_, fun w' hxw hj => ?_, fun w' hxw hj => ?_, fun w' hxw hj => ?_, fun w' hxw hj => ?_, fun w' hxw hj => ?_, fun w' hxw hj => ?_, fun w' hxw hj => ?_, fun w' hxw hj => ?_, fun w' hxw hj => ?_, fun w' hxw hj => ?_, fun w' hxw hj => ?_, fun w' hxw hj => ?_, fun w' hxw hj => ?_, fun w' hxw hj => ?_, fun w' hxw hj => ?_, fun w' hxw hj => ?_, fun w' hxw hj => ?_, fun w' hxw hj => ?_, fun w' hxw hj => ?_, fun w' hxw hj => ?_, fun w' hxw hj => ?_, fun w' hxw hj => ?_, trivial⟩
                    · have hspi := Ext.cell_some hxw hspi
                      have hspk := Ext.cell_some hxw hspk
                      have hc1 := Ext.cell_some hxw hc1
                      have hc2 := Ext.cell_some hxw hc2
                      have hc3 := Ext.cell_some hxw hc3
                      clear hj
                      go_simp
                      try go_bits
                      first | rfl | (rw [if_pos (by omega), if_pos (by omega)]; go_simp; rfl) | (rw [if_pos (by omega)]; go_simp; rfl) | skip
                    · have hspi := Ext.cell_some hxw hspi
                      have hspk := Ext.cell_some hxw hspk
                      have hc1 := Ext.cell_some hxw hc1
                      have hc2 := Ext.cell_some hxw hc2
                      have hc3 := Ext.cell_some hxw hc3
                      clear hj
                      go_simp
                      try go_bits
                      first | rfl | (rw [if_pos (by omega), if_pos (by omega)]; go_simp; rfl) | (rw [if_pos (by omega)]; go_simp; rfl) | skip
                    · have hspi := Ext.cell_some hxw hspi
                      have hspk := Ext.cell_some hxw hspk
                      have hc1 := Ext.cell_some hxw hc1
                      have hc2 := Ext.cell_some hxw hc2
                      have hc3 := Ext.cell_some hxw hc3
                      clear hj
                      go_simp
                      try go_bits
                      first | rfl | (rw [if_pos (by omega), if_pos (by omega)]; go_simp; rfl) | (rw [if_pos (by omega)]; go_simp; rfl) | skip
                    · have hspi := Ext.cell_some hxw hspi
                      have hspk := Ext.cell_some hxw hspk
                      have hc1 := Ext.cell_some hxw hc1
                      have hc2 := Ext.cell_some hxw hc2
                      have hc3 := Ext.cell_some hxw hc3
                      clear hj
                      go_simp
                      try go_bits
                      first | rfl | (rw [if_pos (by omega), if_pos (by omega)]; go_simp; rfl) | (rw [if_pos (by omega)]; go_simp; rfl) | skip
                    · have hspi := Ext.cell_some hxw hspi
                      have hspk := Ext.cell_some hxw hspk
                      have hc1 := Ext.cell_some hxw hc1
                      have hc2 := Ext.cell_some hxw hc2
                      have hc3 := Ext.cell_some hxw hc3
                      clear hj
                      go_simp
                      try go_bits
                      first | rfl | (rw [if_pos (by omega), if_pos (by omega)]; go_simp; rfl) | (rw [if_pos (by omega)]; go_simp; rfl) | skip
                    · have hspi := Ext.cell_some hxw hspi
                      have hspk := Ext.cell_some hxw hspk
                      have hc1 := Ext.cell_some hxw hc1
                      have hc2 := Ext.cell_some hxw hc2
                      have hc3 := Ext.cell_some hxw hc3
                      clear hj
                      go_simp
                      try go_bits
                      first | rfl | (rw [if_pos (by omega), if_pos (by omega)]; go_simp; rfl) | (rw [if_pos (by omega)]; go_simp; rfl) | skip
                    · have hspi := Ext.cell_some hxw hspi
                      have hspk := Ext.cell_some hxw hspk
                      have hc1 := Ext.cell_some hxw hc1
                      have hc2 := Ext.cell_some hxw hc2
                      have hc3 := Ext.cell_some hxw hc3
                      clear hj
                      go_simp
                      try go_bits
                      first | rfl | (rw [if_pos (by omega), if_pos (by omega)]; go_simp; rfl) | (rw [if_pos (by omega)]; go_simp; rfl) | skip
                    · have hspi := Ext.cell_some hxw hspi
                      have hspk := Ext.cell_some hxw hspk
                      have hc1 := Ext.cell_some hxw hc1
                      have hc2 := Ext.cell_some hxw hc2
                      have hc3 := Ext.cell_some hxw hc3
                      clear hj
                      go_simp
                      try go_bits
                      first | rfl | (rw [if_pos (by omega), if_pos (by omega)]; go_simp; rfl) | (rw [if_pos (by omega)]; go_simp; rfl) | skip
                    · have hspi := Ext.cell_some hxw hspi
                      have hspk := Ext.cell_some hxw hspk
                      have hc1 := Ext.cell_some hxw hc1
                      have hc2 := Ext.cell_some hxw hc2
                      have hc3 := Ext.cell_some hxw hc3
                      clear hj
                      go_simp
                      try go_bits
                      first | rfl | (rw [if_pos (by omega), if_pos (by omega)]; go_simp; rfl) | (rw [if_pos (by omega)]; go_simp; rfl) | skip
                    · have hspi := Ext.cell_some hxw hspi
                      have hspk := Ext.cell_some hxw hspk
                      have hc1 := Ext.cell_some hxw hc1
                      have hc2 := Ext.cell_some hxw hc2
                      have hc3 := Ext.cell_some hxw hc3
                      clear hj
                      go_simp
                      try go_bits
                      first | rfl | (rw [if_pos (by omega), if_pos (by omega)]; go_simp; rfl) | (rw [if_pos (by omega)]; go_simp; rfl) | skip
                    · have hspi := Ext.cell_some hxw hspi
                      have hspk := Ext.cell_some hxw hspk
                      have hc1 := Ext.cell_some hxw hc1
                      have hc2 := Ext.cell_some hxw hc2
                      have hc3 := Ext.cell_some hxw hc3
                      clear hj
                      go_simp
                      try go_bits
                      first | rfl | (rw [if_pos (by omega), if_pos (by omega)]; go_simp; rfl) | (rw [if_pos (by omega)]; go_simp; rfl) | skip
                    · have hspi := Ext.cell_some hxw hspi
                      have hspk := Ext.cell_some hxw hspk
                      have hc1 := Ext.cell_some hxw hc1
                      have hc2 := Ext.cell_some hxw hc2
                      have hc3 := Ext.cell_some hxw hc3
                      clear hj
                      go_simp
                      try go_bits
                      first | rfl | (rw [if_pos (by omega), if_pos (by omega)]; go_simp; rfl) | (rw [if_pos (by omega)]; go_simp; rfl) | skip
                    · have hspi := Ext.cell_some hxw hspi
                      have hspk := Ext.cell_some hxw hspk
                      have hc1 := Ext.cell_some hxw hc1
                      have hc2 := Ext.cell_some hxw hc2
                      have hc3 := Ext.cell_some hxw hc3
                      clear hj
                      go_simp
                      try go_bits
                      first | rfl | (rw [if_pos (by omega), if_pos (by omega)]; go_simp; rfl) | (rw [if_pos (by omega)]; go_simp; rfl) | skip
                    · have hspi := Ext.cell_some hxw hspi
                      have hspk := Ext.cell_some hxw hspk
                      have hc1 := Ext.cell_some hxw hc1
                      have hc2 := Ext.cell_some hxw hc2
                      have hc3 := Ext.cell_some hxw hc3
                      clear hj
                      go_simp
                      try go_bits
                      first | rfl | (rw [if_pos (by omega), if_pos (by omega)]; go_simp; rfl) | (rw [if_pos (by omega)]; go_simp; rfl) | skip
                    · have hspi := Ext.cell_some hxw hspi
                      have hspk := Ext.cell_some hxw hspk
                      have hc1 := Ext.cell_some hxw hc1
                      have hc2 := Ext.cell_some hxw hc2
                      have hc3 := Ext.cell_some hxw hc3
                      clear hj
                      go_simp
                      try go_bits
                      first | rfl | (rw [if_pos (by omega), if_pos (by omega)]; go_simp; rfl) | (rw [if_pos (by omega)]; go_simp; rfl) | skip
                    · have hspi := Ext.cell_some hxw hspi
                      have hspk := Ext.cell_some hxw hspk
                      have hc1 := Ext.cell_some hxw hc1
                      have hc2 := Ext.cell_some hxw hc2
                      have hc3 := Ext.cell_some hxw hc3
                      clear hj
                      go_simp
                      try go_bits
                      first | rfl | (rw [if_pos (by omega), if_pos (by omega)]; go_simp; rfl) | (rw [if_pos (by omega)]; go_simp; rfl) | skip
                    · have hspi := Ext.cell_some hxw hspi
                      have hspk := Ext.cell_some hxw hspk
                      have hc1 := Ext.cell_some hxw hc1
                      have hc2 := Ext.cell_some hxw hc2
                      have hc3 := Ext.cell_some hxw hc3
                      clear hj
                      go_simp
                      try go_bits
                      first | rfl | (rw [if_pos (by omega), if_pos (by omega)]; go_simp; rfl) | (rw [if_pos (by omega)]; go_simp; rfl) | skip
                    · have hspi := Ext.cell_some hxw hspi
                      have hspk := Ext.cell_some hxw hspk
                      have hc1 := Ext.cell_some hxw hc1
                      have hc2 := Ext.cell_some hxw hc2
                      have hc3 := Ext.cell_some hxw hc3
                      clear hj
                      go_simp
                      try go_bits
                      first | rfl | (rw [if_pos (by omega), if_pos (by omega)]; go_simp; rfl) | (rw [if_pos (by omega)]; go_simp; rfl) | skip
                    · have hspi := Ext.cell_some hxw hspi
                      have hspk := Ext.cell_some hxw hspk
                      have hc1 := Ext.cell_some hxw hc1
                      have hc2 := Ext.cell_some hxw hc2
                      have hc3 := Ext.cell_some hxw hc3
                      clear hj
                      go_simp
                      try go_bits
                      first | rfl | (rw [if_pos (by omega), if_pos (by omega)]; go_simp; rfl) | (rw [if_pos (by omega)]; go_simp; rfl) | skip
                    · have hspi := Ext.cell_some hxw hspi
                      have hspk := Ext.cell_some hxw hspk
                      have hc1 := Ext.cell_some hxw hc1
                      have hc2 := Ext.cell_some hxw hc2
                      have hc3 := Ext.cell_some hxw hc3
                      clear hj
                      go_simp
                      try go_bits
                      first | rfl | (rw [if_pos (by omega), if_pos (by omega)]; go_simp; rfl) | (rw [if_pos (by omega)]; go_simp; rfl) | skip
                    · have hspi := Ext.cell_some hxw hspi
                      have hspk := Ext.cell_some hxw hspk
                      have hc1 := Ext.cell_some hxw hc1
                      have hc2 := Ext.cell_some hxw hc2
                      have hc3 := Ext.cell_some hxw hc3
                      clear hj
                      go_simp
                      try go_bits
                      first | rfl | (rw [if_pos (by omega), if_pos (by omega)]; go_simp; rfl) | (rw [if_pos (by omega)]; go_simp; rfl) | skip
                    · have hspi := Ext.cell_some hxw hspi
                      have hspk := Ext.cell_some hxw hspk
                      have hc1 := Ext.cell_some hxw hc1
                      have hc2 := Ext.cell_some hxw hc2
                      have hc3 := Ext.cell_some hxw hc3
                      clear hj
                      go_simp
                      try go_bits
                      first | rfl | (rw [if_pos (by omega), if_pos (by omega)]; go_simp; rfl) | (rw [if_pos (by omega)]; go_simp; rfl) | skip
                    · have hspi := Ext.cell_some hxw hspi
                      have hspk := Ext.cell_some hxw hspk
                      have hc1 := Ext.cell_some hxw hc1
                      have hc2 := Ext.cell_some hxw hc2
                      have hc3 := Ext.cell_some hxw hc3
                      clear hj
                      go_simp
                      try go_bits
                      first | rfl | (rw [if_pos (by omega), if_pos (by omega)]; go_simp; rfl) | (rw [if_pos (by omega)]; go_simp; rfl) | skip
                    · have hspi := Ext.cell_some hxw hspi
                      have hspk := Ext.cell_some hxw hspk
                      have hc1 := Ext.cell_some hxw hc1
                      have hc2 := Ext.cell_some hxw hc2
                      have hc3 := Ext.cell_some hxw hc3
                      clear hj
                      go_simp
                      try go_bits
                      first | rfl | (rw [if_pos (by omega), if_pos (by omega)]; go_simp; rfl) | (rw [if_pos (by omega)]; go_simp; rfl) | skip
                    · have hspi := Ext.cell_some hxw hspi
                      have hspk := Ext.cell_some hxw hspk
                      have hc1 := Ext.cell_some hxw hc1
                      have hc2 := Ext.cell_some hxw hc2
                      have hc3 := Ext.cell_some hxw hc3
                      clear hj
                      go_simp
                      try go_bits
                      first | rfl | (rw [if_pos (by omega), if_pos (by omega)]; go_simp; rfl) | (rw [if_pos (by omega)]; go_simp; rfl) | skip
                    · have hspi := Ext.cell_some hxw hspi
                      have hspk := Ext.cell_some hxw hspk
                      have hc1 := Ext.cell_some hxw hc1
                      have hc2 := Ext.cell_some hxw hc2
                      have hc3 := Ext.cell_some hxw hc3
                      clear hj
                      go_simp
                      try go_bits
                      first | rfl | (rw [if_pos (by omega), if_pos (by omega)]; go_simp; rfl) | (rw [if_pos (by omega)]; go_simp; rfl) | skip
                    · have hspi := Ext.cell_some hxw hspi
                      have hspk := Ext.cell_some hxw hspk
                      have hc1 := Ext.cell_some hxw hc1
                      have hc2 := Ext.cell_some hxw hc2
                      have hc3 := Ext.cell_some hxw hc3
                      clear hj hc1 hc2 hc3
                      cases b2 <;> cases b3 <;> (simp only [b2i]; go_simp; try go_bits; try rfl)
                    · have hspi := Ext.cell_some hxw hspi
                      have hspk := Ext.cell_some hxw hspk
                      have hc1 := Ext.cell_some hxw hc1
                      have hc2 := Ext.cell_some hxw hc2
                      have hc3 := Ext.cell_some hxw hc3
                      clear hj hc1 hc2 hc3
                      cases b1 <;> cases b2 <;> cases b3 <;> (simp only [b2i]; go_simp; try go_bits; try rfl)
                    · have hspi := Ext.cell_some hxw hspi
                      have hspk := Ext.cell_some hxw hspk
                      have hc1 := Ext.cell_some hxw hc1
                      have hc2 := Ext.cell_some hxw hc2
                      have hc3 := Ext.cell_some hxw hc3
                      clear hj
                      go_simp
                      try go_bits
                      first | rfl | (rw [if_pos (by omega), if_pos (by omega)]; go_simp; rfl) | (rw [if_pos (by omega)]; go_simp; rfl) | skip
                  case' hx8_38_p =>
                    intro vs w8 hx8 hk
                    clear hk
                    replace hspi := Ext.cell_some hx8 hspi
                    replace hspk := Ext.cell_some hx8 hspk
                    replace hc1 := Ext.cell_some hx8 hc1
                    replace hc2 := Ext.cell_some hx8 hc2
                    replace hc3 := Ext.cell_some hx8 hc3
                    replace hx := Ext.trans hx hx8
                    go_simp
                    have ht8 := HT.out.1.ext hx8
                    have hf8 := ht8.frozen i j HT.out.2.1
                    have hs8 := ht8.set i j HT.out.2.1 (b2i (b1 || (b2 && b3)))
                    rw [HT.out.2.2] at hs8
                    have hx9 := hx.setCell (p := ⟨gs i, j, none⟩) (ht8.rowlt i HT.out.2.1).1 (.int .i64 (b2i (b1 || (b2 && b3))))
                    obtain ⟨y, hy⟩ : ∃ y, y = b2i (b1 || (b2 && b3)) := ⟨_, rfl⟩
                    rw [← hy] at hs8 hx9 ⊢
                    have H8 := Lib.hid (And.intro hs8 hx9)
                    clear ht8 hs8 hx9 hx8 hx hy hc2 hc3
                    go_wp2
                    go_roundw
                    case rel => exact ⟨j + 1, by omega, by go_num, H8.out.1, H8.out.2⟩
                    case measure => simp [intOf]; omega
                · have hjn : j = n := by omega
                  rw [hjn, warTo_row] at ht
                  have HT := Lib.hid ht
                  clear ht
                  subst hjn
                  go_wp2
                  go_roundw
                  case rel => exact ⟨i + 1, by omega, by go_num, HT.out, hx⟩
                  case measure => simp [intOf]; omega
            · have hin : i = n := by omega
              rw [hin, warTo_next] at ht
              have HT := Lib.hid ht
              clear ht
              subst hin
              go_wp2
              go_roundw
              case rel => exact ⟨k + 1, by omega, by go_num, HT.out, hx⟩
              case measure => simp [intOf]; omega
        · have hkn : k = n := by omega
          rw [hkn, HM.out.2.2.2.1] at ht
          have HT := Lib.hid ht
          clear ht
          subst hkn
          go_wp2
          go_ret
          exact ⟨_, rfl, .inr ⟨g, cap, gs, cs, by rw [HM.out.2.2.2.2.1]; rfl, by rw [HM.out.2.2.2.2.1]; exact HT.out⟩, hx⟩
end Go.Proofs.YtfiembmfkokllaaGreat

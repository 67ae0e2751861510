/- Contracts: between which vertices there are paths, by the reference. -/
import Derived.Test.YtfiembmfkokllaaGreatReachA
namespace Go.Proofs.YtfiembmfkokllaaGreat
open Go.RowKit Go.Mx

theorem bits2 (a b : Nat) (ha : a < 1024) (hb : b < 1024) : bits .and .i64 (a : Int) (b : Int) = ((a &&& b : Nat) : Int) ∧ bits .or .i64 (a : Int) (b : Int) = ((a ||| b : Nat) : Int) := by
  refine bits_nat .i64 10 (by decide) (fun n h0 h1 => ?_) a b (by omega) (by omega)
  rw [IntKind.wrap_i64]
  have : (2 : Int) ^ 10 = 1024 := by decide
  omega
theorem and00 : bits .and .i64 0 0 = 0 := (bits2 0 0 (by omega) (by omega)).1
theorem and01 : bits .and .i64 0 1 = 0 := (bits2 0 1 (by omega) (by omega)).1
theorem and10 : bits .and .i64 1 0 = 0 := (bits2 1 0 (by omega) (by omega)).1
theorem and11 : bits .and .i64 1 1 = 1 := (bits2 1 1 (by omega) (by omega)).1
theorem or00 : bits .or .i64 0 0 = 0 := (bits2 0 0 (by omega) (by omega)).2
theorem or01 : bits .or .i64 0 1 = 1 := (bits2 0 1 (by omega) (by omega)).2
theorem or10 : bits .or .i64 1 0 = 1 := (bits2 1 0 (by omega) (by omega)).2
theorem or11 : bits .or .i64 1 1 = 1 := (bits2 1 1 (by omega) (by omega)).2

set_option maxRecDepth 100000 in
set_option maxHeartbeats 8000000 in
theorem spec_l6Reach_any (v : Value) (m : List (List Int)) (n : Nat) (w : World) (h : ReadsRows w v m) (hm : IsM n m) :
    Calls Tryz.prog 106 #[v] w fun e w' => ∃ u, e = .returned u ∧ ResM w' w.heap.size u (reachM m) ∧ Ext w w' := by
  obtain ⟨pa, ca, rfl⟩ := h.slice
  obtain ⟨-, hla1, hla2⟩ := h.len
  have hpn := hm.pos
  have hn9 := hm.le
  have hrM : reachM m = tabF n n fun i j => b2i (warF (arcB m) n i j) := by unfold reachM reachB; rw [hm.len]
  have hfin : tabF n n (warTo (arcB m) n 0 0) = reachM m := by rw [warTo_start, hrM]
  have hrl : (reachM m).length = n := by rw [hrM, tabF_length]
  have hst : tabF n n (fun i j => b2i (arcB m i j)) = tabF n n (warTo (arcB m) 0 0 0) := (warTo_start (arcB m) n 0).symm
  have hMv : ∀ i j, arcB m i j = decide (0 < (m.getD i []).getD j 0) := fun i j => rfl
  rw [hm.len] at h hla1 ⊢
  obtain ⟨M, hM⟩ : ∃ M, M = arcB m := ⟨_, rfl⟩
  rw [← hM] at hfin hst hMv
  have hz := spec_l4Zero_any n n w (by omega) (by omega)
  have hz0 : tabF n n (fun _ _ => 0) = tabF n n (maskF (doneB 0 0) fun i j => b2i (M i j)) := (fill_zero (fun _ _ h _ => by omega) (fun _ h => by omega)).symm
  rw [hz0] at hz
  have HM := Lib.hid (And.intro h (And.intro hm (And.intro hz (And.intro hfin (And.intro hrl (And.intro hst hMv))))))
  clear h hm hz hz0 hfin hrl hst hMv hM hrM
  go_enter Tryz.func106, Tryz.ntmps106
  go_wp2_with (go_at_call 37; with_reducible refine HM.out.2.2.1.mono ?_; rintro e w1 ⟨g, cap, gs, cs, rfl, ht, hx⟩)
  go_loopw [4] (fun q wr => ∃ k : Nat, k ≤ n ∧ q = .int .i64 k ∧ MTab wr w.heap.size 52 3 g n cap gs cs (tabF n n (maskF (doneB k 0) fun i j => b2i (M i j))) ∧ Ext w wr) (fun q _ => n - (intOf q).toNat)
  case atStart => exact ⟨0, by omega, rfl, ht, hx⟩
  case round =>
    clear ht hx
    obtain ⟨i, hi, rfl, ht, hx⟩ := hrel
    by_cases hlti : i < n
    · obtain ⟨bk, o, a', c', rfl, hcA, hrow⟩ := HM.out.1.at i (by rw [HM.out.2.1.len]; exact hlti)
      have hlr := HM.out.2.1.row i hlti
      obtain ⟨b', o', rfl, -⟩ := hrow.at 0 (by rw [hlr]; omega)
      rw [hlr] at hcA hrow
      have hlc := hrow.len.2.1
      have HR := Lib.hid (And.intro hrow (And.intro hlr hcA))
      have HT := Lib.hid ht
      clear hrow hlr ht hcA
      go_wp2
      go_loopw [5] (fun q wr => ∃ k : Nat, k ≤ n ∧ q = .int .i64 k ∧ MTab wr w.heap.size 52 3 g n cap gs cs (tabF n n (maskF (doneB i k) fun i j => b2i (M i j))) ∧ Ext w wr) (fun q _ => n - (intOf q).toNat)
      case atStart => exact ⟨0, by omega, rfl, HT.out, hx⟩
      case round =>
        clear HT hx
        obtain ⟨j, hj, rfl, ht, hx⟩ := hrel
        by_cases hltj : j < n
        · obtain ⟨_, _, e, hcA'⟩ := (HR.out.1.ext hx).at j (by rw [HR.out.2.1]; exact hltj)
          cases e
          have hcA := hx.cell_some HR.out.2.2
          have hx0 := HM.out.2.1.low i j
          have hMv := HM.out.2.2.2.2.2.2 i j
          obtain ⟨x, hxx⟩ : ∃ x, x = (m.getD i []).getD j 0 := ⟨_, rfl⟩
          rw [← hxx] at hcA' hx0 hMv
          have hkR : i < (tabF n n (maskF (doneB i j) fun i j => b2i (M i j))).length := by rw [tabF_length]; exact hlti
          have hsp := ht.spot i hkR
          have hcp := (ht.row i hkR).caps.1
          have hset := fill_set (R := n) (C := n) (F := fun i j => b2i (M i j)) (j := j) hlti
          rw [tabF_row_length hlti] at hsp hcp
          rcases Int.lt_or_le 0 x with hx1 | hx1
          · skip
            have HV := Lib.hid (show b2i (M i j) = (1 : Int) by rw [hMv]; rw [decide_eq_true hx1]; rfl)
            have HT := Lib.hid (And.intro ht (And.intro hkR hset))
            clear ht hkR hset hxx hMv
            go_wp2
            refine wp_region_tail (by kernel_rfl) 15 (.known ?hx8_24_v0 :: .known ?hx8_24_v1 :: .known ?hx8_24_v2 :: .known ?hx8_24_v3 :: .known ?hx8_24_v4 :: .known ?hx8_24_v5 :: .known ?hx8_24_v6 :: .known ?hx8_24_v7 :: .known ?hx8_24_v8 :: .known ?hx8_24_v9 :: .known ?hx8_24_v10 :: .known ?hx8_24_v11 :: .known ?hx8_24_v12 :: .known (.int .i64 1) :: .known ?hx8_24_v14 :: []) rfl (by decide) (by kernel_rfl) (by kernel_rfl) ?hx8_24_s ?hx8_24_p
            case hx8_24_s =>
              intro vs
              refine ⟨fun w' hxw hj => ?_, fun w' hxw hj => ?_, fun w' hxw hj => ?_, fun w' hxw hj => ?_, fun w' hxw hj => ?_, fun w' hxw hj => ?_, fun w' hxw hj => ?_, fun w' hxw hj => ?_, fun w' hxw hj => ?_, fun w' hxw hj => ?_, fun w' hxw hj => ?_, fun w' hxw hj => ?_, fun w' hxw hj => ?_, fun w' hxw hj => ?_, fun w' hxw hj => ?_, trivial⟩
              · have hcA := Ext.cell_some hxw hcA
                have hcA' := Ext.cell_some hxw hcA'
                have hsp := Ext.cell_some hxw hsp
                clear hj
                go_simp
                try go_bits
                first | rfl | (rw [if_pos (by omega), if_pos (by omega)]; go_simp; rfl) | (rw [if_pos (by omega)]; go_simp; rfl) | skip
              · have hcA := Ext.cell_some hxw hcA
                have hcA' := Ext.cell_some hxw hcA'
                have hsp := Ext.cell_some hxw hsp
                clear hj
                go_simp
                try go_bits
                first | rfl | (rw [if_pos (by omega), if_pos (by omega)]; go_simp; rfl) | (rw [if_pos (by omega)]; go_simp; rfl) | skip
              · have hcA := Ext.cell_some hxw hcA
                have hcA' := Ext.cell_some hxw hcA'
                have hsp := Ext.cell_some hxw hsp
                clear hj
                go_simp
                try go_bits
                first | rfl | (rw [if_pos (by omega), if_pos (by omega)]; go_simp; rfl) | (rw [if_pos (by omega)]; go_simp; rfl) | skip
              · have hcA := Ext.cell_some hxw hcA
                have hcA' := Ext.cell_some hxw hcA'
                have hsp := Ext.cell_some hxw hsp
                clear hj
                go_simp
                try go_bits
                first | rfl | (rw [if_pos (by omega), if_pos (by omega)]; go_simp; rfl) | (rw [if_pos (by omega)]; go_simp; rfl) | skip
              · have hcA := Ext.cell_some hxw hcA
                have hcA' := Ext.cell_some hxw hcA'
                have hsp := Ext.cell_some hxw hsp
                clear hj
                go_simp
                try go_bits
                first | rfl | (rw [if_pos (by omega), if_pos (by omega)]; go_simp; rfl) | (rw [if_pos (by omega)]; go_simp; rfl) | skip
              · have hcA := Ext.cell_some hxw hcA
                have hcA' := Ext.cell_some hxw hcA'
                have hsp := Ext.cell_some hxw hsp
                clear hj
                go_simp
                try go_bits
                first | rfl | (rw [if_pos (by omega), if_pos (by omega)]; go_simp; rfl) | (rw [if_pos (by omega)]; go_simp; rfl) | skip
              · have hcA := Ext.cell_some hxw hcA
                have hcA' := Ext.cell_some hxw hcA'
                have hsp := Ext.cell_some hxw hsp
                clear hj
                go_simp
                try go_bits
                first | rfl | (rw [if_pos (by omega), if_pos (by omega)]; go_simp; rfl) | (rw [if_pos (by omega)]; go_simp; rfl) | skip
              · have hcA := Ext.cell_some hxw hcA
                have hcA' := Ext.cell_some hxw hcA'
                have hsp := Ext.cell_some hxw hsp
                clear hj
                go_simp
                try go_bits
                first | rfl | (rw [if_pos (by omega), if_pos (by omega)]; go_simp; rfl) | (rw [if_pos (by omega)]; go_simp; rfl) | skip
              · have hcA := Ext.cell_some hxw hcA
                have hcA' := Ext.cell_some hxw hcA'
                have hsp := Ext.cell_some hxw hsp
                clear hj
                go_simp
                try go_bits
                first | rfl | (rw [if_pos (by omega), if_pos (by omega)]; go_simp; rfl) | (rw [if_pos (by omega)]; go_simp; rfl) | skip
              · have hcA := Ext.cell_some hxw hcA
                have hcA' := Ext.cell_some hxw hcA'
                have hsp := Ext.cell_some hxw hsp
                clear hj
                go_simp
                try go_bits
                first | rfl | (rw [if_pos (by omega), if_pos (by omega)]; go_simp; rfl) | (rw [if_pos (by omega)]; go_simp; rfl) | skip
              · have hcA := Ext.cell_some hxw hcA
                have hcA' := Ext.cell_some hxw hcA'
                have hsp := Ext.cell_some hxw hsp
                clear hj
                go_simp
                try go_bits
                first | rfl | (rw [if_pos (by omega), if_pos (by omega)]; go_simp; rfl) | (rw [if_pos (by omega)]; go_simp; rfl) | skip
              · have hcA := Ext.cell_some hxw hcA
                have hcA' := Ext.cell_some hxw hcA'
                have hsp := Ext.cell_some hxw hsp
                clear hj
                go_simp
                try go_bits
                first | rfl | (rw [if_pos (by omega), if_pos (by omega)]; go_simp; rfl) | (rw [if_pos (by omega)]; go_simp; rfl) | skip
              · have hcA := Ext.cell_some hxw hcA
                have hcA' := Ext.cell_some hxw hcA'
                have hsp := Ext.cell_some hxw hsp
                clear hj
                go_simp
                try go_bits
                first | rfl | (rw [if_pos (by omega), if_pos (by omega)]; go_simp; rfl) | (rw [if_pos (by omega)]; go_simp; rfl) | skip
              · have hcA := Ext.cell_some hxw hcA
                have hcA' := Ext.cell_some hxw hcA'
                have hsp := Ext.cell_some hxw hsp
                clear hj
                go_simp
                try go_bits
                exact (spec_l1Bit_any true _).mono fun _ _ ⟨h1, h2⟩ => ⟨h1, h2 ▸ Ext.refl _⟩
              · have hcA := Ext.cell_some hxw hcA
                have hcA' := Ext.cell_some hxw hcA'
                have hsp := Ext.cell_some hxw hsp
                clear hj
                go_simp
                try go_bits
                first | rfl | (rw [if_pos (by omega), if_pos (by omega)]; go_simp; rfl) | (rw [if_pos (by omega)]; go_simp; rfl) | skip
            case' hx8_24_p =>
              intro vs w8 hx8 hk
              clear hk
              replace hcA := Ext.cell_some hx8 hcA
              replace hcA' := Ext.cell_some hx8 hcA'
              replace hsp := Ext.cell_some hx8 hsp
              replace hx := Ext.trans hx hx8
              go_simp
              have ht8 := HT.out.1.ext hx8
              have hc8 := ht8.at i j HT.out.2.1 (by rw [tabF_row_length hlti]; exact hltj)
              have hf8 := ht8.frozen i j HT.out.2.1
              have hs8 := ht8.set i j HT.out.2.1 1
              rw [← HV.out, HT.out.2.2, HV.out] at hs8
              have hx9 := hx.setCell (p := ⟨gs i, j, none⟩) (ht8.rowlt i HT.out.2.1).1 (.int .i64 1)
              have H8 := Lib.hid (And.intro hs8 hx9)
              clear ht8 hs8 hx9 hx8 hx
              go_wp2
              go_roundw
              case rel => exact ⟨j + 1, by omega, by go_num, H8.out.1, H8.out.2⟩
              case measure => simp [intOf]; omega
          · have hx00 : x = 0 := by omega
            subst hx00
            have HV := Lib.hid (show b2i (M i j) = (0 : Int) by rw [hMv]; rfl)
            have HT := Lib.hid (And.intro ht (And.intro hkR hset))
            clear ht hkR hset hxx hMv
            go_wp2
            refine wp_region_tail (by kernel_rfl) 15 (.known ?hx8_25_v0 :: .known ?hx8_25_v1 :: .known ?hx8_25_v2 :: .known ?hx8_25_v3 :: .known ?hx8_25_v4 :: .known ?hx8_25_v5 :: .known ?hx8_25_v6 :: .known ?hx8_25_v7 :: .known ?hx8_25_v8 :: .known ?hx8_25_v9 :: .known ?hx8_25_v10 :: .known ?hx8_25_v11 :: .known ?hx8_25_v12 :: .known (.int .i64 0) :: .known ?hx8_25_v14 :: []) rfl (by decide) (by kernel_rfl) (by kernel_rfl) ?hx8_25_s ?hx8_25_p
            case hx8_25_s =>
              intro vs
              refine ⟨fun w' hxw hj => ?_, fun w' hxw hj => ?_, fun w' hxw hj => ?_, fun w' hxw hj => ?_, fun w' hxw hj => ?_, fun w' hxw hj => ?_, fun w' hxw hj => ?_, fun w' hxw hj => ?_, fun w' hxw hj => ?_, fun w' hxw hj => ?_, fun w' hxw hj => ?_, fun w' hxw hj => ?_, fun w' hxw hj => ?_, fun w' hxw hj => ?_, fun w' hxw hj => ?_, trivial⟩
              · have hcA := Ext.cell_some hxw hcA
                have hcA' := Ext.cell_some hxw hcA'
                have hsp := Ext.cell_some hxw hsp
                clear hj
                go_simp
                try go_bits
                first | rfl | (rw [if_pos (by omega), if_pos (by omega)]; go_simp; rfl) | (rw [if_pos (by omega)]; go_simp; rfl) | skip
              · have hcA := Ext.cell_some hxw hcA
                have hcA' := Ext.cell_some hxw hcA'
                have hsp := Ext.cell_some hxw hsp
                clear hj
                go_simp
                try go_bits
                first | rfl | (rw [if_pos (by omega), if_pos (by omega)]; go_simp; rfl) | (rw [if_pos (by omega)]; go_simp; rfl) | skip
              · have hcA := Ext.cell_some hxw hcA
                have hcA' := Ext.cell_some hxw hcA'
                have hsp := Ext.cell_some hxw hsp
                clear hj
                go_simp
                try go_bits
                first | rfl | (rw [if_pos (by omega), if_pos (by omega)]; go_simp; rfl) | (rw [if_pos (by omega)]; go_simp; rfl) | skip
              · have hcA := Ext.cell_some hxw hcA
                have hcA' := Ext.cell_some hxw hcA'
                have hsp := Ext.cell_some hxw hsp
                clear hj
                go_simp
                try go_bits
                first | rfl | (rw [if_pos (by omega), if_pos (by omega)]; go_simp; rfl) | (rw [if_pos (by omega)]; go_simp; rfl) | skip
              · have hcA := Ext.cell_some hxw hcA
                have hcA' := Ext.cell_some hxw hcA'
                have hsp := Ext.cell_some hxw hsp
                clear hj
                go_simp
                try go_bits
                first | rfl | (rw [if_pos (by omega), if_pos (by omega)]; go_simp; rfl) | (rw [if_pos (by omega)]; go_simp; rfl) | skip
              · have hcA := Ext.cell_some hxw hcA
                have hcA' := Ext.cell_some hxw hcA'
                have hsp := Ext.cell_some hxw hsp
                clear hj
                go_simp
                try go_bits
                first | rfl | (rw [if_pos (by omega), if_pos (by omega)]; go_simp; rfl) | (rw [if_pos (by omega)]; go_simp; rfl) | skip
              · have hcA := Ext.cell_some hxw hcA
                have hcA' := Ext.cell_some hxw hcA'
                have hsp := Ext.cell_some hxw hsp
                clear hj
                go_simp
                try go_bits
                first | rfl | (rw [if_pos (by omega), if_pos (by omega)]; go_simp; rfl) | (rw [if_pos (by omega)]; go_simp; rfl) | skip
              · have hcA := Ext.cell_some hxw hcA
                have hcA' := Ext.cell_some hxw hcA'
                have hsp := Ext.cell_some hxw hsp
                clear hj
                go_simp
                try go_bits
                first | rfl | (rw [if_pos (by omega), if_pos (by omega)]; go_simp; rfl) | (rw [if_pos (by omega)]; go_simp; rfl) | skip
              · have hcA := Ext.cell_some hxw hcA
                have hcA' := Ext.cell_some hxw hcA'
                have hsp := Ext.cell_some hxw hsp
                clear hj
                go_simp
                try go_bits
                first | rfl | (rw [if_pos (by omega), if_pos (by omega)]; go_simp; rfl) | (rw [if_pos (by omega)]; go_simp; rfl) | skip
              · have hcA := Ext.cell_some hxw hcA
                have hcA' := Ext.cell_some hxw hcA'
                have hsp := Ext.cell_some hxw hsp
                clear hj
                go_simp
                try go_bits
                first | rfl | (rw [if_pos (by omega), if_pos (by omega)]; go_simp; rfl) | (rw [if_pos (by omega)]; go_simp; rfl) | skip
              · have hcA := Ext.cell_some hxw hcA
                have hcA' := Ext.cell_some hxw hcA'
                have hsp := Ext.cell_some hxw hsp
                clear hj
                go_simp
                try go_bits
                first | rfl | (rw [if_pos (by omega), if_pos (by omega)]; go_simp; rfl) | (rw [if_pos (by omega)]; go_simp; rfl) | skip
              · have hcA := Ext.cell_some hxw hcA
                have hcA' := Ext.cell_some hxw hcA'
                have hsp := Ext.cell_some hxw hsp
                clear hj
                go_simp
                try go_bits
                first | rfl | (rw [if_pos (by omega), if_pos (by omega)]; go_simp; rfl) | (rw [if_pos (by omega)]; go_simp; rfl) | skip
              · have hcA := Ext.cell_some hxw hcA
                have hcA' := Ext.cell_some hxw hcA'
                have hsp := Ext.cell_some hxw hsp
                clear hj
                go_simp
                try go_bits
                first | rfl | (rw [if_pos (by omega), if_pos (by omega)]; go_simp; rfl) | (rw [if_pos (by omega)]; go_simp; rfl) | skip
              · have hcA := Ext.cell_some hxw hcA
                have hcA' := Ext.cell_some hxw hcA'
                have hsp := Ext.cell_some hxw hsp
                clear hj
                go_simp
                try go_bits
                exact (spec_l1Bit_any false _).mono fun _ _ ⟨h1, h2⟩ => ⟨h1, h2 ▸ Ext.refl _⟩
              · have hcA := Ext.cell_some hxw hcA
                have hcA' := Ext.cell_some hxw hcA'
                have hsp := Ext.cell_some hxw hsp
                clear hj
                go_simp
                try go_bits
                first | rfl | (rw [if_pos (by omega), if_pos (by omega)]; go_simp; rfl) | (rw [if_pos (by omega)]; go_simp; rfl) | skip
            case' hx8_25_p =>
              intro vs w8 hx8 hk
              clear hk
              replace hcA := Ext.cell_some hx8 hcA
              replace hcA' := Ext.cell_some hx8 hcA'
              replace hsp := Ext.cell_some hx8 hsp
              replace hx := Ext.trans hx hx8
              go_simp
              have ht8 := HT.out.1.ext hx8
              have hc8 := ht8.at i j HT.out.2.1 (by rw [tabF_row_length hlti]; exact hltj)
              have hf8 := ht8.frozen i j HT.out.2.1
              have hs8 := ht8.set i j HT.out.2.1 0
              rw [← HV.out, HT.out.2.2, HV.out] at hs8
              have hx9 := hx.setCell (p := ⟨gs i, j, none⟩) (ht8.rowlt i HT.out.2.1).1 (.int .i64 0)
              have H8 := Lib.hid (And.intro hs8 hx9)
              clear ht8 hs8 hx9 hx8 hx
              go_wp2
              go_roundw
              case rel => exact ⟨j + 1, by omega, by go_num, H8.out.1, H8.out.2⟩
              case measure => simp [intOf]; omega
        · have hjn : j = n := by omega
          rw [hjn, fill_row (d := 0) (fun q _ _ => by omega) (fun q h => by omega)] at ht
          have HT := Lib.hid ht
          clear ht
          subst hjn
          go_wp2
          go_roundw
          case rel => exact ⟨i + 1, by omega, by go_num, HT.out, hx⟩
          case measure => simp [intOf]; omega
    · have hin : i = n := by omega
      rw [hin, fill_all (Nat.le_refl _), HM.out.2.2.2.2.2.1] at ht
      have HT := Lib.hid ht
      clear ht hin
      go_wp2
      go_loopw [6] (fun q wr => ∃ k : Nat, k ≤ n ∧ q = .int .i64 k ∧ MTab wr w.heap.size 52 3 g n cap gs cs (tabF n n (warTo M k 0 0)) ∧ Ext w wr) (fun q _ => n - (intOf q).toNat)
      case atStart => exact ⟨0, by omega, rfl, HT.out, hx⟩
      case round =>
        clear HT hx
        obtain ⟨k, hk, rfl, ht, hx⟩ := hrel
        by_cases hltk : k < n
        · go_wp2
          go_loopw [7] (fun q wr => ∃ i : Nat, i ≤ n ∧ q = .int .i64 i ∧ MTab wr w.heap.size 52 3 g n cap gs cs (tabF n n (warTo M k i 0)) ∧ Ext w wr) (fun q _ => n - (intOf q).toNat)
          case atStart => exact ⟨0, by omega, rfl, ht, hx⟩
          case round =>
            clear ht hx
            obtain ⟨i, hi, rfl, ht, hx⟩ := hrel
            by_cases hlti : i < n
            · go_wp2
              go_loopw [8] (fun q wr => ∃ j : Nat, j ≤ n ∧ q = .int .i64 j ∧ MTab wr w.heap.size 52 3 g n cap gs cs (tabF n n (warTo M k i j)) ∧ Ext w wr) (fun q _ => n - (intOf q).toNat)
              case atStart => exact ⟨0, by omega, rfl, ht, hx⟩
              case round =>
                clear ht hx
                obtain ⟨j, hj, rfl, ht, hx⟩ := hrel
                by_cases hltj : j < n
                · skip
                  have hi' := hlti
                  have hkR : i < (tabF n n (warTo M k i j)).length := by rw [tabF_length]; exact hlti
                  have hkK : k < (tabF n n (warTo M k i j)).length := by rw [tabF_length]; exact hltk
                  have hspi := ht.spot i hkR
                  have hspk := ht.spot k hkK
                  have hcpi := (ht.row i hkR).caps.1
                  have hcpk := (ht.row k hkK).caps.1
                  have hc1 := ht.at i j hkR (by rw [tabF_row_length hlti]; exact hltj)
                  have hc2 := ht.at i k hkR (by rw [tabF_row_length hlti]; exact hltk)
                  have hc3 := ht.at k j hkK (by rw [tabF_row_length hltk]; exact hltj)
                  rw [warTo_at M n k i j hlti hltj] at hc1
                  rw [warTo_to M n k i j hlti hltk] at hc2
                  rw [warTo_from M n k i j hltk hltj] at hc3
                  rw [tabF_row_length hlti] at hspi hcpi
                  rw [tabF_row_length hltk] at hspk hcpk
                  have hset := warTo_set M n k i j hlti
                  have hwv : warF M (k + 1) i j = (warF M k i j || (warF M k i k && warF M k k j)) := rfl
                  rw [hwv] at hset
                  obtain ⟨b1, hb1⟩ : ∃ b, b = warF M k i j := ⟨_, rfl⟩
                  obtain ⟨b2, hb2⟩ : ∃ b, b = warF M k i k := ⟨_, rfl⟩
                  obtain ⟨b3, hb3⟩ : ∃ b, b = warF M k k j := ⟨_, rfl⟩
                  rw [← hb1] at hc1 hset
                  rw [← hb2] at hc2 hset
                  rw [← hb3] at hc3 hset
                  have HT := Lib.hid (And.intro ht (And.intro hkR hset))
                  clear ht hkR hkK hset hb1 hb2 hb3 hwv
                  go_wp2
                  refine wp_region_tail (by kernel_rfl) 29 (.known ?hx8_26_v0 :: .known ?hx8_26_v1 :: .known ?hx8_26_v2 :: .known ?hx8_26_v3 :: .known ?hx8_26_v4 :: .known ?hx8_26_v5 :: .known ?hx8_26_v6 :: .known ?hx8_26_v7 :: .known ?hx8_26_v8 :: .known ?hx8_26_v9 :: .known ?hx8_26_v10 :: .known ?hx8_26_v11 :: .known ?hx8_26_v12 :: .known ?hx8_26_v13 :: .known ?hx8_26_v14 :: .known ?hx8_26_v15 :: .known ?hx8_26_v16 :: .known ?hx8_26_v17 :: .known ?hx8_26_v18 :: .known ?hx8_26_v19 :: .known ?hx8_26_v20 :: .known ?hx8_26_v21 :: .known ?hx8_26_v22 :: .known ?hx8_26_v23 :: .known ?hx8_26_v24 :: .known ?hx8_26_v25 :: .known (.int .i64 (b2i (b2 && b3))) :: .known (.int .i64 (b2i (or b1 (b2 && b3)))) :: .known ?hx8_26_v28 :: []) rfl (by decide) (by kernel_rfl) (by kernel_rfl) ?hx8_26_s ?hx8_26_p
                  case hx8_26_s =>
                    intro vs
                    refine ⟨fun w' hxw hj => ?_, fun w' hxw hj => ?_, fun w' hxw hj => ?_, fun w' hxw hj => ?_, fun w' hxw hj => ?_, fun w' hxw hj => ?_, fun w' hxw hj => ?_, fun w' hxw hj => ?_, fun w' hxw hj => ?_, fun w' hxw hj => ?_, fun w' hxw hj => ?_, fun w' hxw hj => ?_, fun w' hxw hj => ?_, fun w' hxw hj => ?_, fun w' hxw hj => ?_, fun w' hxw hj => ?_, fun w' hxw hj => ?_, fun w' hxw hj => ?_, fun w' hxw hj => ?_, fun w' hxw hj => ?_, fun w' hxw hj => ?_, fun w' hxw hj => ?_, fun w' hxw hj => ?_, fun w' hxw hj => ?_, fun w' hxw hj => ?_, fun w' hxw hj => ?_, fun w' hxw hj => ?_, fun w' hxw hj => ?_, fun w' hxw hj => ?_, trivial⟩
                    · have hspi := Ext.cell_some hxw hspi
                      have hspk := Ext.cell_some hxw hspk
                      have hc1 := Ext.cell_some hxw hc1
                      have hc2 := Ext.cell_some hxw hc2
                      have hc3 := Ext.cell_some hxw hc3
                      clear hj
                      go_simp
                      try go_bits
                      first | rfl | (rw [if_pos (by omega), if_pos (by omega)]; go_simp; rfl) | (rw [if_pos (by omega)]; go_simp; rfl) | skip
                    · have hspi := Ext.cell_some hxw hspi
                      have hspk := Ext.cell_some hxw hspk
                      have hc1 := Ext.cell_some hxw hc1
                      have hc2 := Ext.cell_some hxw hc2
                      have hc3 := Ext.cell_some hxw hc3
                      clear hj
                      go_simp
                      try go_bits
                      first | rfl | (rw [if_pos (by omega), if_pos (by omega)]; go_simp; rfl) | (rw [if_pos (by omega)]; go_simp; rfl) | skip
                    · have hspi := Ext.cell_some hxw hspi
                      have hspk := Ext.cell_some hxw hspk
                      have hc1 := Ext.cell_some hxw hc1
                      have hc2 := Ext.cell_some hxw hc2
                      have hc3 := Ext.cell_some hxw hc3
                      clear hj
                      go_simp
                      try go_bits
                      first | rfl | (rw [if_pos (by omega), if_pos (by omega)]; go_simp; rfl) | (rw [if_pos (by omega)]; go_simp; rfl) | skip
                    · have hspi := Ext.cell_some hxw hspi
                      have hspk := Ext.cell_some hxw hspk
                      have hc1 := Ext.cell_some hxw hc1
                      have hc2 := Ext.cell_some hxw hc2
                      have hc3 := Ext.cell_some hxw hc3
                      clear hj
                      go_simp
                      try go_bits
                      first | rfl | (rw [if_pos (by omega), if_pos (by omega)]; go_simp; rfl) | (rw [if_pos (by omega)]; go_simp; rfl) | skip
                    · have hspi := Ext.cell_some hxw hspi
                      have hspk := Ext.cell_some hxw hspk
                      have hc1 := Ext.cell_some hxw hc1
                      have hc2 := Ext.cell_some hxw hc2
                      have hc3 := Ext.cell_some hxw hc3
                      clear hj
                      go_simp
                      try go_bits
                      first | rfl | (rw [if_pos (by omega), if_pos (by omega)]; go_simp; rfl) | (rw [if_pos (by omega)]; go_simp; rfl) | skip
                    · have hspi := Ext.cell_some hxw hspi
                      have hspk := Ext.cell_some hxw hspk
                      have hc1 := Ext.cell_some hxw hc1
                      have hc2 := Ext.cell_some hxw hc2
                      have hc3 := Ext.cell_some hxw hc3
                      clear hj
                      go_simp
                      try go_bits
                      first | rfl | (rw [if_pos (by omega), if_pos (by omega)]; go_simp; rfl) | (rw [if_pos (by omega)]; go_simp; rfl) | skip
                    · have hspi := Ext.cell_some hxw hspi
                      have hspk := Ext.cell_some hxw hspk
                      have hc1 := Ext.cell_some hxw hc1
                      have hc2 := Ext.cell_some hxw hc2
                      have hc3 := Ext.cell_some hxw hc3
                      clear hj
                      go_simp
                      try go_bits
                      first | rfl | (rw [if_pos (by omega), if_pos (by omega)]; go_simp; rfl) | (rw [if_pos (by omega)]; go_simp; rfl) | skip
                    · have hspi := Ext.cell_some hxw hspi
                      have hspk := Ext.cell_some hxw hspk
                      have hc1 := Ext.cell_some hxw hc1
                      have hc2 := Ext.cell_some hxw hc2
                      have hc3 := Ext.cell_some hxw hc3
                      clear hj
                      go_simp
                      try go_bits
                      first | rfl | (rw [if_pos (by omega), if_pos (by omega)]; go_simp; rfl) | (rw [if_pos (by omega)]; go_simp; rfl) | skip
                    · have hspi := Ext.cell_some hxw hspi
                      have hspk := Ext.cell_some hxw hspk
                      have hc1 := Ext.cell_some hxw hc1
                      have hc2 := Ext.cell_some hxw hc2
                      have hc3 := Ext.cell_some hxw hc3
                      clear hj
                      go_simp
                      try go_bits
                      first | rfl | (rw [if_pos (by omega), if_pos (by omega)]; go_simp; rfl) | (rw [if_pos (by omega)]; go_simp; rfl) | skip
                    · have hspi := Ext.cell_some hxw hspi
                      have hspk := Ext.cell_some hxw hspk
                      have hc1 := Ext.cell_some hxw hc1
                      have hc2 := Ext.cell_some hxw hc2
                      have hc3 := Ext.cell_some hxw hc3
                      clear hj
                      go_simp
                      try go_bits
                      first | rfl | (rw [if_pos (by omega), if_pos (by omega)]; go_simp; rfl) | (rw [if_pos (by omega)]; go_simp; rfl) | skip
                    · have hspi := Ext.cell_some hxw hspi
                      have hspk := Ext.cell_some hxw hspk
                      have hc1 := Ext.cell_some hxw hc1
                      have hc2 := Ext.cell_some hxw hc2
                      have hc3 := Ext.cell_some hxw hc3
                      clear hj
                      go_simp
                      try go_bits
                      first | rfl | (rw [if_pos (by omega), if_pos (by omega)]; go_simp; rfl) | (rw [if_pos (by omega)]; go_simp; rfl) | skip
                    · have hspi := Ext.cell_some hxw hspi
                      have hspk := Ext.cell_some hxw hspk
                      have hc1 := Ext.cell_some hxw hc1
                      have hc2 := Ext.cell_some hxw hc2
                      have hc3 := Ext.cell_some hxw hc3
                      clear hj
                      go_simp
                      try go_bits
                      first | rfl | (rw [if_pos (by omega), if_pos (by omega)]; go_simp; rfl) | (rw [if_pos (by omega)]; go_simp; rfl) | skip
                    · have hspi := Ext.cell_some hxw hspi
                      have hspk := Ext.cell_some hxw hspk
                      have hc1 := Ext.cell_some hxw hc1
                      have hc2 := Ext.cell_some hxw hc2
                      have hc3 := Ext.cell_some hxw hc3
                      clear hj
                      go_simp
                      try go_bits
                      first | rfl | (rw [if_pos (by omega), if_pos (by omega)]; go_simp; rfl) | (rw [if_pos (by omega)]; go_simp; rfl) | skip
                    · have hspi := Ext.cell_some hxw hspi
                      have hspk := Ext.cell_some hxw hspk
                      have hc1 := Ext.cell_some hxw hc1
                      have hc2 := Ext.cell_some hxw hc2
                      have hc3 := Ext.cell_some hxw hc3
                      clear hj
                      go_simp
                      try go_bits
                      first | rfl | (rw [if_pos (by omega), if_pos (by omega)]; go_simp; rfl) | (rw [if_pos (by omega)]; go_simp; rfl) | skip
                    · have hspi := Ext.cell_some hxw hspi
                      have hspk := Ext.cell_some hxw hspk
                      have hc1 := Ext.cell_some hxw hc1
                      have hc2 := Ext.cell_some hxw hc2
                      have hc3 := Ext.cell_some hxw hc3
                      clear hj
                      go_simp
                      try go_bits
                      first | rfl | (rw [if_pos (by omega), if_pos (by omega)]; go_simp; rfl) | (rw [if_pos (by omega)]; go_simp; rfl) | skip
                    · have hspi := Ext.cell_some hxw hspi
                      have hspk := Ext.cell_some hxw hspk
                      have hc1 := Ext.cell_some hxw hc1
                      have hc2 := Ext.cell_some hxw hc2
                      have hc3 := Ext.cell_some hxw hc3
                      clear hj
                      go_simp
                      try go_bits
                      first | rfl | (rw [if_pos (by omega), if_pos (by omega)]; go_simp; rfl) | (rw [if_pos (by omega)]; go_simp; rfl) | skip
                    · have hspi := Ext.cell_some hxw hspi
                      have hspk := Ext.cell_some hxw hspk
                      have hc1 := Ext.cell_some hxw hc1
                      have hc2 := Ext.cell_some hxw hc2
                      have hc3 := Ext.cell_some hxw hc3
                      clear hj
                      go_simp
                      try go_bits
                      first | rfl | (rw [if_pos (by omega), if_pos (by omega)]; go_simp; rfl) | (rw [if_pos (by omega)]; go_simp; rfl) | skip
                    · have hspi := Ext.cell_some hxw hspi
                      have hspk := Ext.cell_some hxw hspk
                      have hc1 := Ext.cell_some hxw hc1
                      have hc2 := Ext.cell_some hxw hc2
                      have hc3 := Ext.cell_some hxw hc3
                      clear hj
                      go_simp
                      try go_bits
                      first | rfl | (rw [if_pos (by omega), if_pos (by omega)]; go_simp; rfl) | (rw [if_pos (by omega)]; go_simp; rfl) | skip
                    · have hspi := Ext.cell_some hxw hspi
                      have hspk := Ext.cell_some hxw hspk
                      have hc1 := Ext.cell_some hxw hc1
                      have hc2 := Ext.cell_some hxw hc2
                      have hc3 := Ext.cell_some hxw hc3
                      clear hj
                      go_simp
                      try go_bits
                      first | rfl | (rw [if_pos (by omega), if_pos (by omega)]; go_simp; rfl) | (rw [if_pos (by omega)]; go_simp; rfl) | skip
                    · have hspi := Ext.cell_some hxw hspi
                      have hspk := Ext.cell_some hxw hspk
                      have hc1 := Ext.cell_some hxw hc1
                      have hc2 := Ext.cell_some hxw hc2
                      have hc3 := Ext.cell_some hxw hc3
                      clear hj
                      go_simp
                      try go_bits
                      first | rfl | (rw [if_pos (by omega), if_pos (by omega)]; go_simp; rfl) | (rw [if_pos (by omega)]; go_simp; rfl) | skip
                    · have hspi := Ext.cell_some hxw hspi
                      have hspk := Ext.cell_some hxw hspk
                      have hc1 := Ext.cell_some hxw hc1
                      have hc2 := Ext.cell_some hxw hc2
                      have hc3 := Ext.cell_some hxw hc3
                      clear hj
                      go_simp
                      try go_bits
                      first | rfl | (rw [if_pos (by omega), if_pos (by omega)]; go_simp; rfl) | (rw [if_pos (by omega)]; go_simp; rfl) | skip
                    · have hspi := Ext.cell_some hxw hspi
                      have hspk := Ext.cell_some hxw hspk
                      have hc1 := Ext.cell_some hxw hc1
                      have hc2 := Ext.cell_some hxw hc2
                      have hc3 := Ext.cell_some hxw hc3
                      clear hj
                      go_simp
                      try go_bits
                      first | rfl | (rw [if_pos (by omega), if_pos (by omega)]; go_simp; rfl) | (rw [if_pos (by omega)]; go_simp; rfl) | skip
                    · have hspi := Ext.cell_some hxw hspi
                      have hspk := Ext.cell_some hxw hspk
                      have hc1 := Ext.cell_some hxw hc1
                      have hc2 := Ext.cell_some hxw hc2
                      have hc3 := Ext.cell_some hxw hc3
                      clear hj
                      go_simp
                      try go_bits
                      first | rfl | (rw [if_pos (by omega), if_pos (by omega)]; go_simp; rfl) | (rw [if_pos (by omega)]; go_simp; rfl) | skip
                    · have hspi := Ext.cell_some hxw hspi
                      have hspk := Ext.cell_some hxw hspk
                      have hc1 := Ext.cell_some hxw hc1
                      have hc2 := Ext.cell_some hxw hc2
                      have hc3 := Ext.cell_some hxw hc3
                      clear hj
                      go_simp
                      try go_bits
                      first | rfl | (rw [if_pos (by omega), if_pos (by omega)]; go_simp; rfl) | (rw [if_pos (by omega)]; go_simp; rfl) | skip
                    · have hspi := Ext.cell_some hxw hspi
                      have hspk := Ext.cell_some hxw hspk
                      have hc1 := Ext.cell_some hxw hc1
                      have hc2 := Ext.cell_some hxw hc2
                      have hc3 := Ext.cell_some hxw hc3
                      clear hj
                      go_simp
                      try go_bits
                      first | rfl | (rw [if_pos (by omega), if_pos (by omega)]; go_simp; rfl) | (rw [if_pos (by omega)]; go_simp; rfl) | skip
                    · have hspi := Ext.cell_some hxw hspi
                      have hspk := Ext.cell_some hxw hspk
                      have hc1 := Ext.cell_some hxw hc1
                      have hc2 := Ext.cell_some hxw hc2
                      have hc3 := Ext.cell_some hxw hc3
                      clear hj
                      go_simp
                      try go_bits
                      first | rfl | (rw [if_pos (by omega), if_pos (by omega)]; go_simp; rfl) | (rw [if_pos (by omega)]; go_simp; rfl) | skip
                    · have hspi := Ext.cell_some hxw hspi
                      have hspk := Ext.cell_some hxw hspk
                      have hc1 := Ext.cell_some hxw hc1
                      have hc2 := Ext.cell_some hxw hc2
                      have hc3 := Ext.cell_some hxw hc3
                      clear hj hc1 hc2 hc3
                      cases b2 <;> cases b3 <;> (simp only [b2i]; go_simp; (try go_bits); (try rfl); (try exact and00); (try exact and01); (try exact and10); (try exact and11); (try exact or00); (try exact or01); (try exact or10); (try exact or11))
                    · have hspi := Ext.cell_some hxw hspi
                      have hspk := Ext.cell_some hxw hspk
                      have hc1 := Ext.cell_some hxw hc1
                      have hc2 := Ext.cell_some hxw hc2
                      have hc3 := Ext.cell_some hxw hc3
                      clear hj hc1 hc2 hc3
                      cases b1 <;> cases b2 <;> cases b3 <;> (simp only [b2i]; go_simp; (try go_bits); (try rfl); (try exact and00); (try exact and01); (try exact and10); (try exact and11); (try exact or00); (try exact or01); (try exact or10); (try exact or11))
                    · have hspi := Ext.cell_some hxw hspi
                      have hspk := Ext.cell_some hxw hspk
                      have hc1 := Ext.cell_some hxw hc1
                      have hc2 := Ext.cell_some hxw hc2
                      have hc3 := Ext.cell_some hxw hc3
                      clear hj
                      go_simp
                      try go_bits
                      first | rfl | (rw [if_pos (by omega), if_pos (by omega)]; go_simp; rfl) | (rw [if_pos (by omega)]; go_simp; rfl) | skip
                  case' hx8_26_p =>
                    intro vs w8 hx8 hk
                    clear hk
                    replace hspi := Ext.cell_some hx8 hspi
                    replace hspk := Ext.cell_some hx8 hspk
                    replace hc1 := Ext.cell_some hx8 hc1
                    replace hc2 := Ext.cell_some hx8 hc2
                    replace hc3 := Ext.cell_some hx8 hc3
                    replace hx := Ext.trans hx hx8
                    go_simp
                    have ht8 := HT.out.1.ext hx8
                    have hf8 := ht8.frozen i j HT.out.2.1
                    have hs8 := ht8.set i j HT.out.2.1 (b2i (b1 || (b2 && b3)))
                    rw [HT.out.2.2] at hs8
                    have hx9 := hx.setCell (p := ⟨gs i, j, none⟩) (ht8.rowlt i HT.out.2.1).1 (.int .i64 (b2i (b1 || (b2 && b3))))
                    obtain ⟨y, hy⟩ : ∃ y, y = b2i (b1 || (b2 && b3)) := ⟨_, rfl⟩
                    rw [← hy] at hs8 hx9 ⊢
                    have H8 := Lib.hid (And.intro hs8 hx9)
                    clear ht8 hs8 hx9 hx8 hx hy hc2 hc3
                    go_wp2
                    go_roundw
                    case rel => exact ⟨j + 1, by omega, by go_num, H8.out.1, H8.out.2⟩
                    case measure => simp [intOf]; omega
                · have hjn : j = n := by omega
                  rw [hjn, warTo_row] at ht
                  have HT := Lib.hid ht
                  clear ht
                  subst hjn
                  go_wp2
                  go_roundw
                  case rel => exact ⟨i + 1, by omega, by go_num, HT.out, hx⟩
                  case measure => simp [intOf]; omega
            · have hin : i = n := by omega
              rw [hin, warTo_next] at ht
              have HT := Lib.hid ht
              clear ht
              subst hin
              go_wp2
              go_roundw
              case rel => exact ⟨k + 1, by omega, by go_num, HT.out, hx⟩
              case measure => simp [intOf]; omega
        · have hkn : k = n := by omega
          rw [hkn, HM.out.2.2.2.1] at ht
          have HT := Lib.hid ht
          clear ht
          subst hkn
          go_wp2
          go_ret
          exact ⟨_, rfl, .inr ⟨g, cap, gs, cs, by rw [HM.out.2.2.2.2.1]; rfl, by rw [HM.out.2.2.2.2.1]; exact HT.out⟩, hx⟩

set_option maxHeartbeats 1000000 in
theorem spec_ReachOf_any (v : Value) (m : List (List Int)) (w : World) (h : ReadsRows w v m) (hm : isMat m = true) :
    Calls Tryz.prog 87 #[v] w fun e w' => ∃ u, e = .returned u ∧ ResM w' w.heap.size u (reachM m) ∧ Ext w w' := by
  have hi := spec_IsMatrix_any v m w h
  rw [hm] at hi
  have HI := Lib.hid (And.intro hi (spec_l6Reach_any v m m.length w h (isMat_yes hm)))
  clear hi hm
  go_enter Tryz.func87, Tryz.ntmps87
  go_wp2_with (first | (go_at_call 64; with_reducible refine HI.out.1.mono ?_; rintro e w' ⟨rfl, rfl⟩) | (go_at_call 106; with_reducible refine HI.out.2.mono ?_; rintro e w1 ⟨u, rfl, hres, hx⟩))
  go_ret
  exact ⟨_, rfl, hres, hx⟩
end Go.Proofs.YtfiembmfkokllaaGreat

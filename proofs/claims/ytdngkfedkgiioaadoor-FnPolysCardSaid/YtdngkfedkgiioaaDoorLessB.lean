/- Contracts: whether the growth is below a fraction, by the program (end) and by the reference. -/
import Derived.Test.YtdngkfedkgiioaaDoorLessA
namespace Go.Proofs.YtdngkfedkgiioaaDoor
open Go.RowKit Go.Mx

set_option maxHeartbeats 2000000 in
theorem impl_isBelow_any (v : Value) (m : List (List Int)) (n : Nat) (q d : Int) (w : World) (h : ReadsRows w v m) (hm : IsS n m) (hq : 0 ≤ q ∧ q ≤ 4000) (hd : 0 ≤ d ∧ d ≤ 100) :
    Calls Tryd.prog 69 #[v, .int .i64 q, .int .i64 d] w fun e w' => e = .returned (.bool (belowB m q d)) ∧ Ext w w' := by
  have hl := impl_less_any v m n q d w h hm hq hd
  have hpn := hm.mat.pos
  have hn4 := hm.four
  have hbad := fun k (hk : k < n) => belowB_bad (m := m) (q := q) (d := d) (k := k) (by rw [hm.mat.len]; exact hk)
  have hall : belowTo m q d n = belowB m q d := by unfold belowB; rw [hm.mat.len]
  have hsucc := belowTo_succ m q d
  have hsq : ∀ k, Sq k 10000 (tabF k k (lessF m q d)) := fun k => tabF_sq (by omega) fun i j => lessF_bd hm.nine hq hd i j
  have htk := fun k (hk : k ≤ n) => take_tabF n k hk (lessF m q d)
  obtain ⟨F, hF⟩ : ∃ F, F = lessF m q d := ⟨_, rfl⟩
  rw [← hF] at hl hbad hsucc hsq htk
  have HM := Lib.hid (And.intro hl (And.intro hbad (And.intro hall (And.intro hsucc (And.intro hsq htk)))))
  clear hl hbad hall hsucc hsq hF hm h htk
  go_enter Tryd.func69, Tryd.ntmps69
  go_wp2_with fail
  with_reducible refine HM.out.1.mono ?_
  rintro e w1 ⟨u, rfl, hres, hx⟩
  have hrd := hres.reads
  obtain ⟨pa, ca, rfl⟩ := hrd.slice
  obtain ⟨-, hla1, hla2⟩ := hrd.len
  rw [tabF_length] at hrd hla1 ⊢
  have HR := Lib.hid hrd
  clear hres hrd
  go_wp2
  go_loopw [8] (fun z wr => ∃ k : Nat, k ≤ n ∧ z = .int .i64 ((k : Int) + 1) ∧ belowTo m q d k = true ∧ Ext w1 wr) (fun z _ => n + 1 - (intOf z).toNat)
  case atStart => exact ⟨0, by omega, by go_num, rfl, Ext.refl _⟩
  case round =>
    obtain ⟨k, hk, rfl, hp, hx1⟩ := hrel
    by_cases hlt : k < n
    · have hfi := impl_first_any _ (tabF n n F) n (k + 1) wr (HR.out.ext hx1) (tabF_length _ _ _) (fun i hi => tabF_row_length hi) (by omega) (by omega) (by omega)
      rw [HM.out.2.2.2.2.2 (k + 1) (by omega)] at hfi
      have hde := fun u w' (hu : ReadsRows w' u (tabF (k + 1) (k + 1) F)) => impl_determinant_any (k + 1) _ u w' (HM.out.2.2.2.2.1 (k + 1)) (by omega) hu
      have hb := HM.out.2.1 k hlt
      have hs := HM.out.2.2.2.1 k
      obtain ⟨D, hD⟩ : ∃ D, D = detL (k + 1) (tabF (k + 1) (k + 1) F) := ⟨_, rfl⟩
      rw [← hD] at hde hb hs
      have ek : ((k + 1 : Nat) : Int) = (k : Int) + 1 := by omega
      rw [ek] at hfi
      have HK := Lib.hid (And.intro hfi (And.intro hde (And.intro hb (And.intro hs hp))))
      clear hfi hde hb hs hp hD
      go_wp2_with fail
      with_reducible refine HK.out.1.mono ?_
      rintro e w2 ⟨u, rfl, hu, hx2⟩
      have HU := Lib.hid hu
      clear hu
      go_wp2_with fail
      with_reducible refine (HK.out.2.1 _ _ HU.out).mono ?_
      rintro e w3 ⟨rfl, hx3⟩
      by_cases hD0 : D ≤ 0
      · have HB := Lib.hid (HK.out.2.2.1 hD0)
        go_wp2
        go_ret
        exact ⟨ret_bool HB.out.symm, hx.trans (hx1.trans (hx2.trans hx3))⟩
      · have HB := Lib.hid (show belowTo m q d (k + 1) = true by rw [HK.out.2.2.2.1, HK.out.2.2.2.2, decide_eq_true (by omega)]; rfl)
        go_wp2
        go_roundw
        case rel => exact ⟨k + 1, by omega, by go_num, HB.out, hx1.trans (hx2.trans hx3)⟩
        case measure => simp [intOf]; omega
    · have hkn : k = n := by omega
      rw [hkn, HM.out.2.2.1] at hp
      have HP := Lib.hid hp
      clear hp
      subst hkn
      go_wp2
      go_ret
      exact ⟨ret_bool HP.out.symm, hx.trans hx1⟩

def below? (m : List (List Int)) (q d : Int) : Bool := isSm m && (decide (0 ≤ q ∧ q ≤ 3600) && (decide (1 ≤ d ∧ d ≤ 100) && belowB m q d))

set_option maxHeartbeats 2000000 in
theorem impl_IsBelow_any (v : Value) (m : List (List Int)) (q d : Int) (w : World) (h : ReadsRows w v m) :
    Calls Tryd.prog 36 #[v, .int .i64 q, .int .i64 d] w fun e w' => e = .returned (.bool (below? m q d)) ∧ Ext w w' := by
  have hs := impl_IsSmall_any v m w h
  cases hsm : isSm m with
  | false =>
    rw [hsm] at hs
    have HI := Lib.hid (And.intro hs (show below? m q d = false by unfold below?; rw [hsm]; rfl))
    clear hs hsm
    go_enter Tryd.func36, Tryd.ntmps36
    go_wp2_with (go_at_call 21; with_reducible refine HI.out.1.mono ?_; rintro e w' ⟨rfl, rfl⟩)
    go_ret
    exact ⟨ret_bool HI.out.2.symm, Ext.refl _⟩
  | true =>
    rw [hsm] at hs
    by_cases hq : 0 ≤ q ∧ q ≤ 3600
    · by_cases hd : 1 ≤ d ∧ d ≤ 100
      · have hb := impl_isBelow_any v m m.length q d w h (isSm_IsS hsm) (by omega) (by omega)
        have HI := Lib.hid (And.intro hs (And.intro (show below? m q d = belowB m q d by unfold below?; rw [hsm, decide_eq_true hq, decide_eq_true hd]; rfl) hb))
        clear hs hsm hb
        obtain ⟨hq1, hq2⟩ := hq
        obtain ⟨hd1, hd2⟩ := hd
        go_enter Tryd.func36, Tryd.ntmps36
        go_wp2_with (first | (go_at_call 21; with_reducible refine HI.out.1.mono ?_; rintro e w' ⟨rfl, rfl⟩) | (go_at_call 69; with_reducible refine HI.out.2.2.mono ?_; rintro e w1 ⟨rfl, hx⟩))
        go_ret
        exact ⟨ret_bool HI.out.2.1.symm, hx⟩
      · have HI := Lib.hid (And.intro hs (show below? m q d = false by unfold below?; rw [hsm, decide_eq_true hq, decide_eq_false hd]; rfl))
        clear hs hsm
        obtain ⟨hq1, hq2⟩ := hq
        by_cases hd1 : d < 1
        · clear hd
          go_enter Tryd.func36, Tryd.ntmps36
          go_wp2_with (go_at_call 21; with_reducible refine HI.out.1.mono ?_; rintro e w' ⟨rfl, rfl⟩)
          go_ret
          exact ⟨ret_bool HI.out.2.symm, Ext.refl _⟩
        · have hd2 : 100 < d := by omega
          clear hd
          go_enter Tryd.func36, Tryd.ntmps36
          go_wp2_with (go_at_call 21; with_reducible refine HI.out.1.mono ?_; rintro e w' ⟨rfl, rfl⟩)
          go_ret
          exact ⟨ret_bool HI.out.2.symm, Ext.refl _⟩
    · have HI := Lib.hid (And.intro hs (show below? m q d = false by unfold below?; rw [hsm, decide_eq_false hq]; rfl))
      clear hs hsm
      by_cases hq1 : q < 0
      · clear hq
        go_enter Tryd.func36, Tryd.ntmps36
        go_wp2_with (go_at_call 21; with_reducible refine HI.out.1.mono ?_; rintro e w' ⟨rfl, rfl⟩)
        go_ret
        exact ⟨ret_bool HI.out.2.symm, Ext.refl _⟩
      · have hq2 : 3600 < q := by omega
        clear hq
        go_enter Tryd.func36, Tryd.ntmps36
        go_wp2_with (go_at_call 21; with_reducible refine HI.out.1.mono ?_; rintro e w' ⟨rfl, rfl⟩)
        go_ret
        exact ⟨ret_bool HI.out.2.symm, Ext.refl _⟩

set_option maxRecDepth 100000 in
set_option maxHeartbeats 8000000 in
theorem spec_l8Below_any (v : Value) (m : List (List Int)) (n : Nat) (q d : Int) (w : World) (h : ReadsRows w v m) (hm : IsS n m) (hq : 0 ≤ q ∧ q ≤ 4000) (hd : 0 ≤ d ∧ d ≤ 100) :
    Calls Tryd.prog 72 #[v, .int .i64 q, .int .i64 d] w fun e w' => e = .returned (.bool (belowB m q d)) ∧ Ext w w' := by
  have hpn := hm.mat.pos
  have hn4 := hm.four
  have hbad := fun k (hk : k < n) => belowB_bad (m := m) (q := q) (d := d) (k := k) (by rw [hm.mat.len]; exact hk)
  have hall : belowTo m q d n = belowB m q d := by unfold belowB; rw [hm.mat.len]
  have hsucc := belowTo_succ m q d
  have hsq : ∀ k, Sq k 10000 (tabF k k (lessF m q d)) := fun k => tabF_sq (by omega) fun i j => lessF_bd hm.nine hq hd i j
  have htk := fun k (hk : k ≤ n) => partL_tabF n k hk (lessF m q d)
  have hFe : ∀ i, lessF m q d i i = q - d * at2 m i i := fun i => by unfold lessF; rw [if_pos rfl]
  have hFn : ∀ i j, ¬ i = j → lessF m q d i j = -(d * at2 m i j) := fun i j hij => by unfold lessF; rw [if_neg hij]; omega
  obtain ⟨pa, ca, rfl⟩ := h.slice
  obtain ⟨-, hla1, hla2⟩ := h.len
  rw [hm.mat.len] at h hla1 ⊢
  obtain ⟨F, hF⟩ : ∃ F, F = lessF m q d := ⟨_, rfl⟩
  rw [← hF] at hbad hsucc hsq htk hFe hFn
  have hz := spec_l4Zero_any n n w (by omega) (by omega)
  have hz0 : tabF n n (fun _ _ => 0) = tabF n n (maskF (doneB 0 0) F) := (fill_zero (fun _ _ h _ => by omega) (fun _ h => by omega)).symm
  rw [hz0] at hz
  have HM := Lib.hid (And.intro h (And.intro hbad (And.intro hall (And.intro hsucc (And.intro hsq (And.intro htk (And.intro hm hz)))))))
  have HF := Lib.hid (And.intro hFe hFn)
  obtain ⟨hq1, hq2⟩ := hq
  obtain ⟨hd1, hd2⟩ := hd
  clear hbad hall hsucc hsq hF hm h htk hz hz0 hFe hFn
  go_enter Tryd.func72, Tryd.ntmps72
  go_wp2_with (go_at_call 50; with_reducible refine HM.out.2.2.2.2.2.2.2.mono ?_; rintro e w1 ⟨g, cap, gs, cs, rfl, ht, hx⟩)
  go_loopw [8] (fun z wr => ∃ k : Nat, k ≤ n ∧ z = .int .i64 k ∧ MTab wr w.heap.size 26 3 g n cap gs cs (tabF n n (maskF (doneB k 0) F)) ∧ Ext w wr) (fun z _ => n - (intOf z).toNat)
  case atStart => exact ⟨0, by omega, rfl, ht, hx⟩
  case round =>
    clear ht hx
    obtain ⟨i, hi, rfl, ht, hx⟩ := hrel
    by_cases hlti : i < n
    · go_wp2
      go_loopw [9] (fun z wr => ∃ k : Nat, k ≤ n ∧ z = .int .i64 k ∧ MTab wr w.heap.size 26 3 g n cap gs cs (tabF n n (maskF (doneB i k) F)) ∧ Ext w wr) (fun z _ => n - (intOf z).toNat)
      case atStart => exact ⟨0, by omega, rfl, ht, hx⟩
      case round =>
        clear ht hx
        obtain ⟨j, hj, rfl, ht, hx⟩ := hrel
        by_cases hltj : j < n
        · obtain ⟨bk, o, a', c', rfl, hcA, hrow⟩ := HM.out.1.at i (by rw [HM.out.2.2.2.2.2.2.1.mat.len]; exact hlti)
          have hlr := HM.out.2.2.2.2.2.2.1.mat.row i hlti
          obtain ⟨b', o', rfl, hcA'⟩ := hrow.at j (by rw [hlr]; exact hltj)
          rw [hlr] at hcA hrow
          have hlc := hrow.len.2.1
          replace hcA := hx.cell_some hcA
          replace hcA' := hx.cell_some hcA'
          have hxb := HM.out.2.2.2.2.2.2.1.nine i j
          have hFe := HF.out.1 i
          have hFn := HF.out.2 i j
          obtain ⟨x, hxx⟩ : ∃ x, x = (m.getD i []).getD j 0 := ⟨_, rfl⟩
          have hxa : at2 m i j = x := hxx.symm
          rw [hxa] at hxb hFn
          rw [← hxx] at hcA'
          have hzb := mul_bd (x := d) (y := x) (a := 100) (b := 9) (by omega) hd2 (by omega) hxb.2
          obtain ⟨z, hz⟩ : ∃ z, d * x = z := ⟨_, rfl⟩
          rw [hz] at hFn hzb
          obtain ⟨hz1, hz2⟩ := hzb
          have hkR : i < (tabF n n (maskF (doneB i j) F)).length := by rw [tabF_length]; exact hlti
          have hsp := ht.spot i hkR
          have hcp := (ht.row i hkR).caps.1
          rw [tabF_row_length hlti] at hsp hcp
          have HT := Lib.hid (And.intro ht hkR)
          clear ht hkR hrow hlr hxx hxb
          by_cases hFv : i = j
          · have HV := Lib.hid (show F i j = q - z by subst hFv; rw [hFe, hxa, hz])
            clear hFe hFn hxa
            have hij : ((i : Int) == (j : Int)) = true := by simp [hFv]
            clear hFv
            go_wp2
            refine wp_region_tail (by kernel_rfl) 22 (.known ?hx8_12_v0 :: .known ?hx8_12_v1 :: .known ?hx8_12_v2 :: .known ?hx8_12_v3 :: .known ?hx8_12_v4 :: .known ?hx8_12_v5 :: .known ?hx8_12_v6 :: .known ?hx8_12_v7 :: .known (.int .i64 1) :: .known ?hx8_12_v9 :: .known ?hx8_12_v10 :: .known ?hx8_12_v11 :: .known ?hx8_12_v12 :: .known ?hx8_12_v13 :: .known ?hx8_12_v14 :: .known ?hx8_12_v15 :: .known ?hx8_12_v16 :: .known ?hx8_12_v17 :: .known ?hx8_12_v18 :: .known ?hx8_12_v19 :: .known ?hx8_12_v20 :: .known ?hx8_12_v21 :: []) rfl (by decide) (by kernel_rfl) (by kernel_rfl) ?hx8_12_s ?hx8_12_p
            case hx8_12_s =>
              intro vs
              refine ⟨fun w' hxw hj => ?_, fun w' hxw hj => ?_, fun w' hxw hj => ?_, fun w' hxw hj => ?_, fun w' hxw hj => ?_, fun w' hxw hj => ?_, fun w' hxw hj => ?_, fun w' hxw hj => ?_, fun w' hxw hj => ?_, fun w' hxw hj => ?_, fun w' hxw hj => ?_, fun w' hxw hj => ?_, fun w' hxw hj => ?_, fun w' hxw hj => ?_, fun w' hxw hj => ?_, fun w' hxw hj => ?_, fun w' hxw hj => ?_, fun w' hxw hj => ?_, fun w' hxw hj => ?_, fun w' hxw hj => ?_, fun w' hxw hj => ?_, fun w' hxw hj => ?_, trivial⟩
              · have hcA := Ext.cell_some hxw hcA
                have hcA' := Ext.cell_some hxw hcA'
                have hsp := Ext.cell_some hxw hsp
                clear hj
                go_simp
                try go_bits
                first | rfl | (rw [if_pos (by omega), if_pos (by omega)]; go_simp; rfl) | (rw [if_pos (by omega)]; go_simp; rfl) | skip
              · have hcA := Ext.cell_some hxw hcA
                have hcA' := Ext.cell_some hxw hcA'
                have hsp := Ext.cell_some hxw hsp
                clear hj
                go_simp
                try go_bits
                first | rfl | (rw [if_pos (by omega), if_pos (by omega)]; go_simp; rfl) | (rw [if_pos (by omega)]; go_simp; rfl) | skip
              · have hcA := Ext.cell_some hxw hcA
                have hcA' := Ext.cell_some hxw hcA'
                have hsp := Ext.cell_some hxw hsp
                clear hj
                go_simp
                try go_bits
                first | rfl | (rw [if_pos (by omega), if_pos (by omega)]; go_simp; rfl) | (rw [if_pos (by omega)]; go_simp; rfl) | skip
              · have hcA := Ext.cell_some hxw hcA
                have hcA' := Ext.cell_some hxw hcA'
                have hsp := Ext.cell_some hxw hsp
                clear hj
                go_simp
                try go_bits
                first | rfl | (rw [if_pos (by omega), if_pos (by omega)]; go_simp; rfl) | (rw [if_pos (by omega)]; go_simp; rfl) | skip
              · have hcA := Ext.cell_some hxw hcA
                have hcA' := Ext.cell_some hxw hcA'
                have hsp := Ext.cell_some hxw hsp
                clear hj
                go_simp
                try go_bits
                first | rfl | (rw [if_pos (by omega), if_pos (by omega)]; go_simp; rfl) | (rw [if_pos (by omega)]; go_simp; rfl) | skip
              · have hcA := Ext.cell_some hxw hcA
                have hcA' := Ext.cell_some hxw hcA'
                have hsp := Ext.cell_some hxw hsp
                clear hj
                go_simp
                try go_bits
                first | rfl | (rw [if_pos (by omega), if_pos (by omega)]; go_simp; rfl) | (rw [if_pos (by omega)]; go_simp; rfl) | skip
              · have hcA := Ext.cell_some hxw hcA
                have hcA' := Ext.cell_some hxw hcA'
                have hsp := Ext.cell_some hxw hsp
                clear hj
                go_simp
                try go_bits
                first | rfl | (rw [if_pos (by omega), if_pos (by omega)]; go_simp; rfl) | (rw [if_pos (by omega)]; go_simp; rfl) | skip
              · have hcA := Ext.cell_some hxw hcA
                have hcA' := Ext.cell_some hxw hcA'
                have hsp := Ext.cell_some hxw hsp
                clear hj
                go_simp
                try go_bits
                first | rfl | (rw [if_pos (by omega), if_pos (by omega)]; go_simp; rfl) | (rw [if_pos (by omega)]; go_simp; rfl) | skip
              · have hcA := Ext.cell_some hxw hcA
                have hcA' := Ext.cell_some hxw hcA'
                have hsp := Ext.cell_some hxw hsp
                clear hj
                go_simp
                try go_bits
                exact (spec_l1Bit_any true _).mono fun _ _ ⟨h1, h2⟩ => ⟨h1, h2 ▸ Ext.refl _⟩
              · have hcA := Ext.cell_some hxw hcA
                have hcA' := Ext.cell_some hxw hcA'
                have hsp := Ext.cell_some hxw hsp
                clear hj
                go_simp
                try go_bits
                first | rfl | (rw [if_pos (by omega), if_pos (by omega)]; go_simp; rfl) | (rw [if_pos (by omega)]; go_simp; rfl) | skip
              · have hcA := Ext.cell_some hxw hcA
                have hcA' := Ext.cell_some hxw hcA'
                have hsp := Ext.cell_some hxw hsp
                clear hj
                go_simp
                try go_bits
                first | rfl | (rw [if_pos (by omega), if_pos (by omega)]; go_simp; rfl) | (rw [if_pos (by omega)]; go_simp; rfl) | skip
              · have hcA := Ext.cell_some hxw hcA
                have hcA' := Ext.cell_some hxw hcA'
                have hsp := Ext.cell_some hxw hsp
                clear hj
                go_simp
                try go_bits
                first | rfl | (rw [if_pos (by omega), if_pos (by omega)]; go_simp; rfl) | (rw [if_pos (by omega)]; go_simp; rfl) | skip
              · have hcA := Ext.cell_some hxw hcA
                have hcA' := Ext.cell_some hxw hcA'
                have hsp := Ext.cell_some hxw hsp
                clear hj
                go_simp
                try go_bits
                first | rfl | (rw [if_pos (by omega), if_pos (by omega)]; go_simp; rfl) | (rw [if_pos (by omega)]; go_simp; rfl) | skip
              · have hcA := Ext.cell_some hxw hcA
                have hcA' := Ext.cell_some hxw hcA'
                have hsp := Ext.cell_some hxw hsp
                clear hj
                go_simp
                try go_bits
                first | rfl | (rw [if_pos (by omega), if_pos (by omega)]; go_simp; rfl) | (rw [if_pos (by omega)]; go_simp; rfl) | skip
              · have hcA := Ext.cell_some hxw hcA
                have hcA' := Ext.cell_some hxw hcA'
                have hsp := Ext.cell_some hxw hsp
                clear hj
                go_simp
                try go_bits
                first | rfl | (rw [if_pos (by omega), if_pos (by omega)]; go_simp; rfl) | (rw [if_pos (by omega)]; go_simp; rfl) | skip
              · have hcA := Ext.cell_some hxw hcA
                have hcA' := Ext.cell_some hxw hcA'
                have hsp := Ext.cell_some hxw hsp
                clear hj
                go_simp
                try go_bits
                first | rfl | (rw [if_pos (by omega), if_pos (by omega)]; go_simp; rfl) | (rw [if_pos (by omega)]; go_simp; rfl) | skip
              · have hcA := Ext.cell_some hxw hcA
                have hcA' := Ext.cell_some hxw hcA'
                have hsp := Ext.cell_some hxw hsp
                clear hj
                go_simp
                try go_bits
                first | rfl | (rw [if_pos (by omega), if_pos (by omega)]; go_simp; rfl) | (rw [if_pos (by omega)]; go_simp; rfl) | skip
              · have hcA := Ext.cell_some hxw hcA
                have hcA' := Ext.cell_some hxw hcA'
                have hsp := Ext.cell_some hxw hsp
                clear hj
                go_simp
                try go_bits
                first | rfl | (rw [if_pos (by omega), if_pos (by omega)]; go_simp; rfl) | (rw [if_pos (by omega)]; go_simp; rfl) | skip
              · have hcA := Ext.cell_some hxw hcA
                have hcA' := Ext.cell_some hxw hcA'
                have hsp := Ext.cell_some hxw hsp
                clear hj
                go_simp
                try go_bits
                first | rfl | (rw [if_pos (by omega), if_pos (by omega)]; go_simp; rfl) | (rw [if_pos (by omega)]; go_simp; rfl) | skip
              · have hcA := Ext.cell_some hxw hcA
                have hcA' := Ext.cell_some hxw hcA'
                have hsp := Ext.cell_some hxw hsp
                clear hj
                go_simp
                try go_bits
                first | rfl | (rw [if_pos (by omega), if_pos (by omega)]; go_simp; rfl) | (rw [if_pos (by omega)]; go_simp; rfl) | skip
              · have hcA := Ext.cell_some hxw hcA
                have hcA' := Ext.cell_some hxw hcA'
                have hsp := Ext.cell_some hxw hsp
                clear hj
                go_simp
                try go_bits
                first | rfl | (rw [if_pos (by omega), if_pos (by omega)]; go_simp; rfl) | (rw [if_pos (by omega)]; go_simp; rfl) | skip
              · have hcA := Ext.cell_some hxw hcA
                have hcA' := Ext.cell_some hxw hcA'
                have hsp := Ext.cell_some hxw hsp
                clear hj
                go_simp
                try go_bits
                first | rfl | (rw [if_pos (by omega), if_pos (by omega)]; go_simp; rfl) | (rw [if_pos (by omega)]; go_simp; rfl) | skip
            case' hx8_12_p =>
              intro vs w8 hx8 hk
              clear hk
              replace hcA := Ext.cell_some hx8 hcA
              replace hcA' := Ext.cell_some hx8 hcA'
              replace hsp := Ext.cell_some hx8 hsp
              replace hx := Ext.trans hx hx8
              go_simp
              have ht8 := HT.out.1.ext hx8
              have hc8 := ht8.at i j HT.out.2 (by rw [tabF_row_length hlti]; exact hltj)
              have hf8 := ht8.frozen i j HT.out.2
              have hs8 := ht8.set i j HT.out.2 (q - z)
              rw [← HV.out, fill_set hlti, HV.out] at hs8
              have hx9 := hx.setCell (p := ⟨gs i, j, none⟩) (ht8.rowlt i HT.out.2).1 (.int .i64 (q - z))
              have H8 := Lib.hid (And.intro hs8 hx9)
              clear ht8 hs8 hx9 hx8 hx
              go_wp2
              go_roundw
              case rel => exact ⟨j + 1, by omega, by go_num, H8.out.1, H8.out.2⟩
              case measure => simp [intOf]; omega
          · have HV := Lib.hid (hFn hFv)
            clear hFe hFn hxa
            have hij : ((i : Int) == (j : Int)) = false := by simp; omega
            clear hFv
            go_wp2
            refine wp_region_tail (by kernel_rfl) 22 (.known ?hx8_13_v0 :: .known ?hx8_13_v1 :: .known ?hx8_13_v2 :: .known ?hx8_13_v3 :: .known ?hx8_13_v4 :: .known ?hx8_13_v5 :: .known ?hx8_13_v6 :: .known ?hx8_13_v7 :: .known (.int .i64 0) :: .known ?hx8_13_v9 :: .known ?hx8_13_v10 :: .known ?hx8_13_v11 :: .known ?hx8_13_v12 :: .known ?hx8_13_v13 :: .known ?hx8_13_v14 :: .known ?hx8_13_v15 :: .known ?hx8_13_v16 :: .known ?hx8_13_v17 :: .known ?hx8_13_v18 :: .known ?hx8_13_v19 :: .known ?hx8_13_v20 :: .known ?hx8_13_v21 :: []) rfl (by decide) (by kernel_rfl) (by kernel_rfl) ?hx8_13_s ?hx8_13_p
            case hx8_13_s =>
              intro vs
              refine ⟨fun w' hxw hj => ?_, fun w' hxw hj => ?_, fun w' hxw hj => ?_, fun w' hxw hj => ?_, fun w' hxw hj => ?_, fun w' hxw hj => ?_, fun w' hxw hj => ?_, fun w' hxw hj => ?_, fun w' hxw hj => ?_, fun w' hxw hj => ?_, fun w' hxw hj => ?_, fun w' hxw hj => ?_, fun w' hxw hj => ?_, fun w' hxw hj => ?_, fun w' hxw hj => ?_, fun w' hxw hj => ?_, fun w' hxw hj => ?_, fun w' hxw hj => ?_, fun w' hxw hj => ?_, fun w' hxw hj => ?_, fun w' hxw hj => ?_, fun w' hxw hj => ?_, trivial⟩
              · have hcA := Ext.cell_some hxw hcA
                have hcA' := Ext.cell_some hxw hcA'
                have hsp := Ext.cell_some hxw hsp
                clear hj
                go_simp
                try go_bits
                first | rfl | (rw [if_pos (by omega), if_pos (by omega)]; go_simp; rfl) | (rw [if_pos (by omega)]; go_simp; rfl) | skip
              · have hcA := Ext.cell_some hxw hcA
                have hcA' := Ext.cell_some hxw hcA'
                have hsp := Ext.cell_some hxw hsp
                clear hj
                go_simp
                try go_bits
                first | rfl | (rw [if_pos (by omega), if_pos (by omega)]; go_simp; rfl) | (rw [if_pos (by omega)]; go_simp; rfl) | skip
              · have hcA := Ext.cell_some hxw hcA
                have hcA' := Ext.cell_some hxw hcA'
                have hsp := Ext.cell_some hxw hsp
                clear hj
                go_simp
                try go_bits
                first | rfl | (rw [if_pos (by omega), if_pos (by omega)]; go_simp; rfl) | (rw [if_pos (by omega)]; go_simp; rfl) | skip
              · have hcA := Ext.cell_some hxw hcA
                have hcA' := Ext.cell_some hxw hcA'
                have hsp := Ext.cell_some hxw hsp
                clear hj
                go_simp
                try go_bits
                first | rfl | (rw [if_pos (by omega), if_pos (by omega)]; go_simp; rfl) | (rw [if_pos (by omega)]; go_simp; rfl) | skip
              · have hcA := Ext.cell_some hxw hcA
                have hcA' := Ext.cell_some hxw hcA'
                have hsp := Ext.cell_some hxw hsp
                clear hj
                go_simp
                try go_bits
                first | rfl | (rw [if_pos (by omega), if_pos (by omega)]; go_simp; rfl) | (rw [if_pos (by omega)]; go_simp; rfl) | skip
              · have hcA := Ext.cell_some hxw hcA
                have hcA' := Ext.cell_some hxw hcA'
                have hsp := Ext.cell_some hxw hsp
                clear hj
                go_simp
                try go_bits
                first | rfl | (rw [if_pos (by omega), if_pos (by omega)]; go_simp; rfl) | (rw [if_pos (by omega)]; go_simp; rfl) | skip
              · have hcA := Ext.cell_some hxw hcA
                have hcA' := Ext.cell_some hxw hcA'
                have hsp := Ext.cell_some hxw hsp
                clear hj
                go_simp
                try go_bits
                first | rfl | (rw [if_pos (by omega), if_pos (by omega)]; go_simp; rfl) | (rw [if_pos (by omega)]; go_simp; rfl) | skip
              · have hcA := Ext.cell_some hxw hcA
                have hcA' := Ext.cell_some hxw hcA'
                have hsp := Ext.cell_some hxw hsp
                clear hj
                go_simp
                try go_bits
                first | rfl | (rw [if_pos (by omega), if_pos (by omega)]; go_simp; rfl) | (rw [if_pos (by omega)]; go_simp; rfl) | skip
              · have hcA := Ext.cell_some hxw hcA
                have hcA' := Ext.cell_some hxw hcA'
                have hsp := Ext.cell_some hxw hsp
                clear hj
                go_simp
                try go_bits
                exact (spec_l1Bit_any false _).mono fun _ _ ⟨h1, h2⟩ => ⟨h1, h2 ▸ Ext.refl _⟩
              · have hcA := Ext.cell_some hxw hcA
                have hcA' := Ext.cell_some hxw hcA'
                have hsp := Ext.cell_some hxw hsp
                clear hj
                go_simp
                try go_bits
                first | rfl | (rw [if_pos (by omega), if_pos (by omega)]; go_simp; rfl) | (rw [if_pos (by omega)]; go_simp; rfl) | skip
              · have hcA := Ext.cell_some hxw hcA
                have hcA' := Ext.cell_some hxw hcA'
                have hsp := Ext.cell_some hxw hsp
                clear hj
                go_simp
                try go_bits
                first | rfl | (rw [if_pos (by omega), if_pos (by omega)]; go_simp; rfl) | (rw [if_pos (by omega)]; go_simp; rfl) | skip
              · have hcA := Ext.cell_some hxw hcA
                have hcA' := Ext.cell_some hxw hcA'
                have hsp := Ext.cell_some hxw hsp
                clear hj
                go_simp
                try go_bits
                first | rfl | (rw [if_pos (by omega), if_pos (by omega)]; go_simp; rfl) | (rw [if_pos (by omega)]; go_simp; rfl) | skip
              · have hcA := Ext.cell_some hxw hcA
                have hcA' := Ext.cell_some hxw hcA'
                have hsp := Ext.cell_some hxw hsp
                clear hj
                go_simp
                try go_bits
                first | rfl | (rw [if_pos (by omega), if_pos (by omega)]; go_simp; rfl) | (rw [if_pos (by omega)]; go_simp; rfl) | skip
              · have hcA := Ext.cell_some hxw hcA
                have hcA' := Ext.cell_some hxw hcA'
                have hsp := Ext.cell_some hxw hsp
                clear hj
                go_simp
                try go_bits
                first | rfl | (rw [if_pos (by omega), if_pos (by omega)]; go_simp; rfl) | (rw [if_pos (by omega)]; go_simp; rfl) | skip
              · have hcA := Ext.cell_some hxw hcA
                have hcA' := Ext.cell_some hxw hcA'
                have hsp := Ext.cell_some hxw hsp
                clear hj
                go_simp
                try go_bits
                first | rfl | (rw [if_pos (by omega), if_pos (by omega)]; go_simp; rfl) | (rw [if_pos (by omega)]; go_simp; rfl) | skip
              · have hcA := Ext.cell_some hxw hcA
                have hcA' := Ext.cell_some hxw hcA'
                have hsp := Ext.cell_some hxw hsp
                clear hj
                go_simp
                try go_bits
                first | rfl | (rw [if_pos (by omega), if_pos (by omega)]; go_simp; rfl) | (rw [if_pos (by omega)]; go_simp; rfl) | skip
              · have hcA := Ext.cell_some hxw hcA
                have hcA' := Ext.cell_some hxw hcA'
                have hsp := Ext.cell_some hxw hsp
                clear hj
                go_simp
                try go_bits
                first | rfl | (rw [if_pos (by omega), if_pos (by omega)]; go_simp; rfl) | (rw [if_pos (by omega)]; go_simp; rfl) | skip
              · have hcA := Ext.cell_some hxw hcA
                have hcA' := Ext.cell_some hxw hcA'
                have hsp := Ext.cell_some hxw hsp
                clear hj
                go_simp
                try go_bits
                first | rfl | (rw [if_pos (by omega), if_pos (by omega)]; go_simp; rfl) | (rw [if_pos (by omega)]; go_simp; rfl) | skip
              · have hcA := Ext.cell_some hxw hcA
                have hcA' := Ext.cell_some hxw hcA'
                have hsp := Ext.cell_some hxw hsp
                clear hj
                go_simp
                try go_bits
                first | rfl | (rw [if_pos (by omega), if_pos (by omega)]; go_simp; rfl) | (rw [if_pos (by omega)]; go_simp; rfl) | skip
              · have hcA := Ext.cell_some hxw hcA
                have hcA' := Ext.cell_some hxw hcA'
                have hsp := Ext.cell_some hxw hsp
                clear hj
                go_simp
                try go_bits
                first | rfl | (rw [if_pos (by omega), if_pos (by omega)]; go_simp; rfl) | (rw [if_pos (by omega)]; go_simp; rfl) | skip
              · have hcA := Ext.cell_some hxw hcA
                have hcA' := Ext.cell_some hxw hcA'
                have hsp := Ext.cell_some hxw hsp
                clear hj
                go_simp
                try go_bits
                first | rfl | (rw [if_pos (by omega), if_pos (by omega)]; go_simp; rfl) | (rw [if_pos (by omega)]; go_simp; rfl) | skip
              · have hcA := Ext.cell_some hxw hcA
                have hcA' := Ext.cell_some hxw hcA'
                have hsp := Ext.cell_some hxw hsp
                clear hj
                go_simp
                try go_bits
                first | rfl | (rw [if_pos (by omega), if_pos (by omega)]; go_simp; rfl) | (rw [if_pos (by omega)]; go_simp; rfl) | skip
            case' hx8_13_p =>
              intro vs w8 hx8 hk
              clear hk
              replace hcA := Ext.cell_some hx8 hcA
              replace hcA' := Ext.cell_some hx8 hcA'
              replace hsp := Ext.cell_some hx8 hsp
              replace hx := Ext.trans hx hx8
              go_simp
              have ht8 := HT.out.1.ext hx8
              have hc8 := ht8.at i j HT.out.2 (by rw [tabF_row_length hlti]; exact hltj)
              have hf8 := ht8.frozen i j HT.out.2
              have hs8 := ht8.set i j HT.out.2 (-z)
              rw [← HV.out, fill_set hlti, HV.out] at hs8
              have hx9 := hx.setCell (p := ⟨gs i, j, none⟩) (ht8.rowlt i HT.out.2).1 (.int .i64 (-z))
              have H8 := Lib.hid (And.intro hs8 hx9)
              clear ht8 hs8 hx9 hx8 hx
              go_wp2
              go_roundw
              case rel => exact ⟨j + 1, by omega, by go_num, H8.out.1, H8.out.2⟩
              case measure => simp [intOf]; omega
        · have hjn : j = n := by omega
          rw [hjn, fill_row (d := 0) (fun q _ _ => by omega) (fun q h => by omega)] at ht
          have HT := Lib.hid ht
          clear ht
          subst hjn
          go_wp2
          go_roundw
          case rel => exact ⟨i + 1, by omega, by go_num, HT.out, hx⟩
          case measure => simp [intOf]; omega
    · have hin : i = n := by omega
      rw [hin, fill_all (Nat.le_refl _)] at ht
      have HR := Lib.hid (ht.reads (tabF_length _ _ _).symm)
      have hcapn := ht.caps
      clear ht
      have hcapn1 := hcapn.1
      subst hin
      obtain ⟨wm, rfl⟩ : ∃ wm : World, wm = wr := ⟨_, rfl⟩
      have hB0 : Own (wm.alloc (.cells #[] 3)) wm.heap.size 3 (.slice (some ⟨wm.heap.size, 0, none⟩) 0 0) (icells (natL 0)) := Own.lit wm 3 [] (by simp)
      go_wp2
      go_loopw [10, 11] (fun u z wr => ∃ k gl cl : Nat, k ≤ i ∧ z = .int .i64 k ∧ u = .slice (some ⟨gl, 0, none⟩) k cl ∧ Own wr wm.heap.size 3 (.slice (some ⟨gl, 0, none⟩) k cl) (icells (natL k)) ∧ belowTo m q d k = true ∧ Ext wm wr) (fun _ z _ => i - (intOf z).toNat)
      case atStart => exact ⟨0, _, _, by omega, rfl, rfl, hB0, rfl, Ext.alloc _ _⟩
      case round =>
        clear hB0
        obtain ⟨k, gl, cl, hk, rfl, rfl, hown, hp, hx1⟩ := hrel
        by_cases hlt : k < i
        · have hu1 : (icells (natL k)).length + 1 ≤ maxLen := by rw [icells_length, natL_length]; unfold maxLen; omega
          have hu2 : ((icells (natL k)).length + 1) * 8 ≤ 140737488355328 := by rw [icells_length, natL_length]; omega
          have hb := HM.out.2.1 k hlt
          have hs := HM.out.2.2.2.1 k
          have hde := fun u w' (hu : ReadsRows w' u (tabF (k + 1) (k + 1) F)) => spec_l7Det_any (k + 1) _ u w' (HM.out.2.2.2.2.1 (k + 1)) (by omega) hu
          obtain ⟨D, hD⟩ : ∃ D, D = detL (k + 1) (tabF (k + 1) (k + 1) F) := ⟨_, rfl⟩
          rw [← hD] at hb hs hde
          have HK := Lib.hid (And.intro hown (And.intro hu1 (And.intro hu2 (And.intro hb (And.intro hs (And.intro hp hde))))))
          clear hown hu1 hu2 hb hs hp hde hD
          go_wp2_with (at_builtin; refine wpList_append_one rfl (.tmp 58) (.tmp 60) 26 rfl 3 _ _ Tryd.underlying26 infoInt rfl wm.heap.size _ (icells (natL k)) rfl (HK.out.1.ext (Ext.alloc _ _)) _ _ rfl (by simp; rfl) rfl HK.out.2.1 HK.out.2.2.1 wm rfl (hx1.trans (Ext.alloc _ _)) ?_; intro v4 w4 hown4 hx4 hmv4; rw [icells_snoc, ← natL_succ] at hown4; have hsh4 := hown4.shape; rw [icells_length, natL_length] at hsh4; obtain ⟨g4, c4, hv4⟩ : ∃ g4 c4, v4 = .slice (some ⟨g4, 0, none⟩) (k + 1) c4 := hsh4.elim (fun h => by have h9 := congrArg List.length h.2; rw [icells_length, natL_length] at h9; simp at h9) (fun ⟨g4, c4, h, _⟩ => ⟨g4, c4, h⟩); subst hv4; have H4 := Lib.hid (And.intro hown4 hx4); clear hown4 hx4 hmv4 hsh4)
          have hpt := spec_l5Part_any _ _ (tabF i i F) (natL (k + 1)) i w4 (HR.out.ext H4.out.2) H4.out.1.readsI (by rw [natL_length]; omega) (tabF_length _ _ _) (fun j hj => tabF_row_length hj) (fun j hj => ⟨j, natL_at (k + 1) j (by rw [natL_length] at hj; exact hj), by rw [natL_length] at hj; omega⟩)
          rw [HM.out.2.2.2.2.2.1 (k + 1) (by omega)] at hpt
          have HP := Lib.hid hpt
          clear hpt
          go_wp2_with fail
          with_reducible refine HP.out.mono ?_
          rintro e w5 ⟨u, rfl, hres, hx5⟩
          have HU := Lib.hid hres.reads
          clear hres
          go_wp2_with fail
          with_reducible refine (HK.out.2.2.2.2.2.2 _ _ HU.out).mono ?_
          rintro e w6 ⟨rfl, hx6⟩
          by_cases hD0 : D ≤ 0
          · have HB := Lib.hid (HK.out.2.2.2.1 hD0)
            go_wp2
            go_ret
            exact ⟨ret_bool HB.out.symm, hx.trans (H4.out.2.trans (hx5.trans hx6))⟩
          · have HB := Lib.hid (show belowTo m q d (k + 1) = true by rw [HK.out.2.2.2.2.1, HK.out.2.2.2.2.2.1, decide_eq_true (by omega)]; rfl)
            go_wp2
            go_roundw
            case rel => exact ⟨k + 1, g4, c4, by omega, by go_num, rfl, (H4.out.1.ext hx5).ext hx6, HB.out, H4.out.2.trans (hx5.trans hx6)⟩
            case measure => simp [intOf]; omega
        · have hkn : k = i := by omega
          rw [hkn, HM.out.2.2.1] at hp
          have HP := Lib.hid hp
          clear hp hown
          subst hkn
          go_wp2
          go_ret
          exact ⟨ret_bool HP.out.symm, hx.trans hx1⟩
end Go.Proofs.YtdngkfedkgiioaaDoor

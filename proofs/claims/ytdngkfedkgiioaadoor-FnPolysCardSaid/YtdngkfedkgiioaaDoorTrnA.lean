/- Contracts: a turned matrix, its trace, and two lists that are the same. -/
import Derived.Test.YtdngkfedkgiioaaDoorPkB
import Derived.Test.YtdngkfedkgiioaaDoorPkC
namespace Go.Mx
/-- column by column -/
def colB (i j p q : Nat) : Bool := decide (q < i) || (decide (q = i) && decide (p < j))
theorem colB_succ (i j p q : Nat) : colB i (j + 1) p q = (colB i j p q || (decide (p = j) && decide (q = i))) := by
  rw [Bool.eq_iff_iff]; simp [colB]; omega
def turnTo (m : List (List Int)) (n i j : Nat) : List (List Int) := tabF n n (maskF (colB i j) fun p q => at2 m q p)
theorem turnTo_zero (m : List (List Int)) (n : Nat) : tabF n n (fun _ _ => 0) = turnTo m n 0 0 := (mask_none fun p q _ _ => .inl (by simp [colB])).symm
theorem turnTo_set (m : List (List Int)) (n i j : Nat) (hj : j < n) : setM (turnTo m n i j) j i (at2 m i j) = turnTo m n i (j + 1) :=
  mask_set (F := fun p q => at2 m q p) hj fun p q _ _ => colB_succ i j p q
theorem turnTo_col (m : List (List Int)) (n i : Nat) : turnTo m n i n = turnTo m n (i + 1) 0 := by
  apply mask_same
  intro p q hp _
  left; rw [Bool.eq_iff_iff]; simp [colB]; omega
theorem turnTo_all (m : List (List Int)) (n : Nat) : turnTo m n n 0 = tabF n n fun p q => at2 m q p := by
  apply mask_all
  intro p q _ hq
  left; simp [colB]; omega
theorem turnTo_length (m : List (List Int)) (n i j : Nat) : (turnTo m n i j).length = n := tabF_length _ _ _
theorem turnTo_row (m : List (List Int)) (n i j k : Nat) (hk : k < n) : ((turnTo m n i j).getD k []).length = n := by
  unfold turnTo
  rw [tabF_row _ _ _ _ hk, rowF_length]
def trTo (m : List (List Int)) (k : Nat) : Int := ((List.range k).map fun i => at2 m i i).sum
theorem trTo_succ (m : List (List Int)) (k : Nat) : trTo m (k + 1) = trTo m k + at2 m k k := by
  unfold trTo
  rw [List.range_succ, List.map_append, List.sum_append]
  simp
theorem trTo_bd {m : List (List Int)} (h : ∀ i j, 0 ≤ at2 m i j ∧ at2 m i j ≤ 1000000) : ∀ k : Nat, 0 ≤ trTo m k ∧ trTo m k ≤ (k : Int) * 1000000
  | 0 => by simp [trTo]
  | k + 1 => by
    have ih := trTo_bd h k
    have h1 := h k k
    rw [trTo_succ]
    omega
end Go.Mx
namespace Go.Proofs.YtdngkfedkgiioaaDoor
open Go.RowKit Go.Mx

set_option maxRecDepth 100000 in
set_option maxHeartbeats 4000000 in
theorem spec_l4Turn_any (v : Value) (m : List (List Int)) (n : Nat) (w : World) (h : ReadsRows w v m) (hm : IsM n m) :
    Calls Tryd.prog 67 #[v] w fun e w' => ∃ u, e = .returned u ∧ ResM w' w.heap.size u (turnM m) ∧ Ext w w' := by
  obtain ⟨pa, ca, rfl⟩ := h.slice
  have hpn := hm.pos
  have hn9 := hm.le
  have hml := hm.len
  rw [hml] at h ⊢
  have hzr := fun w => spec_l4Zero_any n n w (by omega) (by omega)
  have hall : turnTo m n n 0 = turnM m := by rw [turnTo_all]; unfold turnM; rw [hml]
  have HM := Lib.hid (And.intro h (And.intro hm (And.intro hml (And.intro hzr hall))))
  have hca := h.len.2
  clear h hm hml hzr hall
  go_enter Tryd.func67, Tryd.ntmps67
  go_wp2_with fail
  with_reducible refine (HM.out.2.2.2.1 _).mono ?_
  rintro e w1 ⟨g, cap, gs, cs, rfl, ht, hx⟩
  rw [turnTo_zero m n] at ht
  go_wp2
  go_loopw [4] (fun q wr => ∃ i : Nat, i ≤ n ∧ q = .int .i64 i ∧ MTab wr w.heap.size 26 3 g n cap gs cs (turnTo m n i 0) ∧ Ext w wr) (fun q _ => n - (intOf q).toNat)
  case atStart => exact ⟨0, by omega, rfl, ht, hx⟩
  case round =>
    clear ht hx
    obtain ⟨i, hi, rfl, ht, hx⟩ := hrel
    obtain ⟨wm, rfl⟩ : ∃ wm : World, wm = wr := ⟨_, rfl⟩
    by_cases hlti : i < n
    · go_wp2
      go_loopw [5] (fun q wr => ∃ j : Nat, j ≤ n ∧ q = .int .i64 j ∧ MTab wr w.heap.size 26 3 g n cap gs cs (turnTo m n i j) ∧ Ext w wr) (fun q _ => n - (intOf q).toNat)
      case atStart => exact ⟨0, by omega, rfl, ht, hx⟩
      case round =>
        clear ht hx
        obtain ⟨j, hj, rfl, ht, hx⟩ := hrel
        by_cases hltj : j < n
        · have hjl : j < (turnTo m n i j).length := by rw [turnTo_length]; exact hltj
          have hgl := ht.lt
          have hgc := ht.caps
          have hrl := ht.rowlt j hjl
          have hrc := (ht.row j hjl).caps
          have hsp := ht.spot j hjl
          rw [turnTo_row _ _ _ _ _ hltj] at hsp hrc
          obtain ⟨G, hG⟩ : ∃ G, G = gs j := ⟨_, rfl⟩
          rw [← hG] at hsp hrl
          obtain ⟨Cc, hC⟩ : ∃ C, C = cs j := ⟨_, rfl⟩
          rw [← hC] at hsp hrc
          obtain ⟨bk, o, a', c', hpa, hcR, hrow⟩ := (HM.out.1.ext hx).at i (by rw [HM.out.2.2.1]; exact hlti)
          subst hpa
          obtain ⟨b', o', rfl, hcE⟩ := hrow.at j (by rw [HM.out.2.1.row i hlti]; exact hltj)
          have hlc := hrow.len.2
          rw [HM.out.2.1.row i hlti] at hcR hlc
          obtain ⟨x, hxx⟩ : ∃ x, x = (m.getD i []).getD j 0 := ⟨_, rfl⟩
          rw [← hxx] at hcE
          have HT := Lib.hid (And.intro ht (And.intro hG (And.intro hxx hx)))
          clear ht hG hC hxx hrow hx
          go_wp2
          refine wp_region_tail (by kernel_rfl) 13 (.known ?hx5_3_v0 :: .known ?hx5_3_v1 :: .known ?hx5_3_v2 :: .known ?hx5_3_v3 :: .known ?hx5_3_v4 :: .known ?hx5_3_v5 :: .known ?hx5_3_v6 :: .known ?hx5_3_v7 :: .known ?hx5_3_v8 :: .known ?hx5_3_v9 :: .known ?hx5_3_v10 :: .known ?hx5_3_v11 :: .known ?hx5_3_v12 :: []) rfl (by decide) (by kernel_rfl) (by kernel_rfl) ?hx5_3_s ?hx5_3_p
          case hx5_3_s =>
            intro vs
            refine ⟨fun w' hxw hj => ?_, fun w' hxw hj => ?_, fun w' hxw hj => ?_, fun w' hxw hj => ?_, fun w' hxw hj => ?_, fun w' hxw hj => ?_, fun w' hxw hj => ?_, fun w' hxw hj => ?_, fun w' hxw hj => ?_, fun w' hxw hj => ?_, fun w' hxw hj => ?_, fun w' hxw hj => ?_, fun w' hxw hj => ?_, trivial⟩
            · have hsp := Ext.cell_some hxw hsp
              have hcR := Ext.cell_some hxw hcR
              have hcE := Ext.cell_some hxw hcE
              clear hj
              go_simp
              try go_bits
              first | rfl | (rw [if_pos (by omega), if_pos (by omega)]; go_simp; rfl) | (rw [if_pos (by omega)]; go_simp; rfl) | skip
            · have hsp := Ext.cell_some hxw hsp
              have hcR := Ext.cell_some hxw hcR
              have hcE := Ext.cell_some hxw hcE
              clear hj
              go_simp
              try go_bits
              first | rfl | (rw [if_pos (by omega), if_pos (by omega)]; go_simp; rfl) | (rw [if_pos (by omega)]; go_simp; rfl) | skip
            · have hsp := Ext.cell_some hxw hsp
              have hcR := Ext.cell_some hxw hcR
              have hcE := Ext.cell_some hxw hcE
              clear hj
              go_simp
              try go_bits
              first | rfl | (rw [if_pos (by omega), if_pos (by omega)]; go_simp; rfl) | (rw [if_pos (by omega)]; go_simp; rfl) | skip
            · have hsp := Ext.cell_some hxw hsp
              have hcR := Ext.cell_some hxw hcR
              have hcE := Ext.cell_some hxw hcE
              clear hj
              go_simp
              try go_bits
              first | rfl | (rw [if_pos (by omega), if_pos (by omega)]; go_simp; rfl) | (rw [if_pos (by omega)]; go_simp; rfl) | skip
            · have hsp := Ext.cell_some hxw hsp
              have hcR := Ext.cell_some hxw hcR
              have hcE := Ext.cell_some hxw hcE
              clear hj
              go_simp
              try go_bits
              first | rfl | (rw [if_pos (by omega), if_pos (by omega)]; go_simp; rfl) | (rw [if_pos (by omega)]; go_simp; rfl) | skip
            · have hsp := Ext.cell_some hxw hsp
              have hcR := Ext.cell_some hxw hcR
              have hcE := Ext.cell_some hxw hcE
              clear hj
              go_simp
              try go_bits
              first | rfl | (rw [if_pos (by omega), if_pos (by omega)]; go_simp; rfl) | (rw [if_pos (by omega)]; go_simp; rfl) | skip
            · have hsp := Ext.cell_some hxw hsp
              have hcR := Ext.cell_some hxw hcR
              have hcE := Ext.cell_some hxw hcE
              clear hj
              go_simp
              try go_bits
              first | rfl | (rw [if_pos (by omega), if_pos (by omega)]; go_simp; rfl) | (rw [if_pos (by omega)]; go_simp; rfl) | skip
            · have hsp := Ext.cell_some hxw hsp
              have hcR := Ext.cell_some hxw hcR
              have hcE := Ext.cell_some hxw hcE
              clear hj
              go_simp
              try go_bits
              first | rfl | (rw [if_pos (by omega), if_pos (by omega)]; go_simp; rfl) | (rw [if_pos (by omega)]; go_simp; rfl) | skip
            · have hsp := Ext.cell_some hxw hsp
              have hcR := Ext.cell_some hxw hcR
              have hcE := Ext.cell_some hxw hcE
              clear hj
              go_simp
              try go_bits
              first | rfl | (rw [if_pos (by omega), if_pos (by omega)]; go_simp; rfl) | (rw [if_pos (by omega)]; go_simp; rfl) | skip
            · have hsp := Ext.cell_some hxw hsp
              have hcR := Ext.cell_some hxw hcR
              have hcE := Ext.cell_some hxw hcE
              clear hj
              go_simp
              try go_bits
              first | rfl | (rw [if_pos (by omega), if_pos (by omega)]; go_simp; rfl) | (rw [if_pos (by omega)]; go_simp; rfl) | skip
            · have hsp := Ext.cell_some hxw hsp
              have hcR := Ext.cell_some hxw hcR
              have hcE := Ext.cell_some hxw hcE
              clear hj
              go_simp
              try go_bits
              first | rfl | (rw [if_pos (by omega), if_pos (by omega)]; go_simp; rfl) | (rw [if_pos (by omega)]; go_simp; rfl) | skip
            · have hsp := Ext.cell_some hxw hsp
              have hcR := Ext.cell_some hxw hcR
              have hcE := Ext.cell_some hxw hcE
              clear hj
              go_simp
              try go_bits
              first | rfl | (rw [if_pos (by omega), if_pos (by omega)]; go_simp; rfl) | (rw [if_pos (by omega)]; go_simp; rfl) | skip
            · have hsp := Ext.cell_some hxw hsp
              have hcR := Ext.cell_some hxw hcR
              have hcE := Ext.cell_some hxw hcE
              clear hj
              go_simp
              try go_bits
              first | rfl | (rw [if_pos (by omega), if_pos (by omega)]; go_simp; rfl) | (rw [if_pos (by omega)]; go_simp; rfl) | skip
          case' hx5_3_p =>
            intro vs w5 hx5 hk
            clear hk
            replace hsp := Ext.cell_some hx5 hsp
            replace hcR := Ext.cell_some hx5 hcR
            replace hcE := Ext.cell_some hx5 hcE
            go_simp
            have hH5 := Lib.hid hx5
            clear hx5 hsp hcR hcE
            have ht5 := HT.out.1.ext hH5.out
            have hce := ht5.at j i (by rw [turnTo_length]; exact hltj) (by rw [turnTo_row _ _ _ _ _ hltj]; exact hlti)
            have hfr := ht5.frozen j i (by rw [turnTo_length]; exact hltj)
            have hts := ht5.set j i (by rw [turnTo_length]; exact hltj) x
            rw [HT.out.2.2.1, show (m.getD i []).getD j 0 = at2 m i j from rfl, turnTo_set m n i j hltj, show at2 m i j = (m.getD i []).getD j 0 from rfl, ← HT.out.2.2.1] at hts
            rw [← HT.out.2.1] at hce hfr hts
            have hxs := (HT.out.2.2.2.trans hH5.out).setCell (p := ⟨G, i, none⟩) hrl.1 (.int .i64 x)
            have HS := Lib.hid (And.intro hts hxs)
            clear ht5 hts hxs
            go_wp2
            go_roundw
            case rel => exact ⟨j + 1, by omega, by go_num, HS.out.1, HS.out.2⟩
            case measure => simp [intOf]; omega
        · have hjn : j = n := by omega
          subst hjn
          rw [turnTo_col] at ht
          have HT := Lib.hid (And.intro ht hx)
          clear ht hx
          go_wp2
          go_roundw
          case rel => exact ⟨i + 1, by omega, by go_num, HT.out.1, HT.out.2⟩
          case measure => simp [intOf]; omega
    · have hin : i = n := by omega
      subst hin
      rw [HM.out.2.2.2.2] at ht
      have HT := Lib.hid (And.intro ht hx)
      clear ht hx
      have hln : (turnM m).length = i := by rw [turnM_length, HM.out.2.2.1]
      have HL := Lib.hid hln
      clear hln
      go_wp2
      go_ret
      exact ⟨.slice (some ⟨g, 0, none⟩) i cap, rfl, .inr ⟨g, cap, gs, cs, by rw [HL.out], by rw [HL.out]; exact HT.out.1⟩, HT.out.2⟩

theorem spec_TurnMatrix_any (v : Value) (m : List (List Int)) (w : World) (h : ReadsRows w v m) (hm : isMat m = true) :
    Calls Tryd.prog 28 #[v] w fun e w' => ∃ u, e = .returned u ∧ ReadsRows w' u (turnM m) ∧ Ext w w' := by
  have him := spec_IsMatrix_any v m w h
  rw [hm] at him
  have HI := Lib.hid (And.intro him (spec_l4Turn_any v m m.length w h (isMat_yes hm)))
  clear him hm h
  go_enter Tryd.func28, Tryd.ntmps28
  go_wp2_with fail
  with_reducible refine HI.out.1.mono ?_
  rintro e w' ⟨rfl, rfl⟩
  go_wp2_with fail
  with_reducible refine HI.out.2.mono ?_
  rintro e w1 ⟨u, rfl, hu, hx⟩
  have HR := Lib.hid hu.reads
  clear hu
  go_wp2
  go_ret
  exact ⟨u, rfl, HR.out, hx⟩

set_option maxRecDepth 100000 in
set_option maxHeartbeats 1000000 in
theorem spec_TraceOf_any (v : Value) (m : List (List Int)) (w : World) (h : ReadsRows w v m) (hm : isMat m = true) :
    Calls Tryd.prog 27 #[v] w fun e w' => e = .returned (.int .i64 (trM m)) ∧ Ext w w' := by
  have hM := isMat_yes hm
  have him := spec_IsMatrix_any v m w h
  rw [hm] at him
  obtain ⟨pa, ca, rfl⟩ := h.slice
  have hn9 := hM.le
  have hbd := trTo_bd (m := m) fun i j => hM.at2_bd i j
  have hsu := trTo_succ m
  have hall : trTo m m.length = trM m := rfl
  obtain ⟨n, hn⟩ : ∃ n, n = m.length := ⟨_, rfl⟩
  have hca := h.len.2
  rw [← hn] at h him hM hn9 hall hca ⊢
  have HM := Lib.hid (And.intro h (And.intro hM (And.intro hbd (And.intro hsu (And.intro hall him)))))
  clear h him hM hbd hsu hall hm hn
  go_enter Tryd.func27, Tryd.ntmps27
  go_wp2_with fail
  with_reducible refine HM.out.2.2.2.2.2.mono ?_
  rintro e w' ⟨rfl, rfl⟩
  go_wp2
  go_loopw [3, 4] (fun s q wr => ∃ i : Nat, i ≤ n ∧ q = .int .i64 i ∧ s = .int .i64 (trTo m i) ∧ wr = w) (fun _ q _ => n - (intOf q).toNat)
  case atStart => exact ⟨0, by omega, rfl, rfl, rfl⟩
  case round =>
    obtain ⟨i, hi, rfl, rfl, rfl⟩ := hrel
    by_cases hlti : i < n
    · obtain ⟨bk, o, a', c', hpa, hcR, hrow⟩ := HM.out.1.at i (by rw [HM.out.2.1.len]; exact hlti)
      subst hpa
      obtain ⟨b', o', rfl, hcE⟩ := hrow.at i (by rw [HM.out.2.1.row i hlti]; exact hlti)
      have hlc := hrow.len.2
      rw [HM.out.2.1.row i hlti] at hcR hlc
      obtain ⟨x, hxx⟩ : ∃ x, x = (m.getD i []).getD i 0 := ⟨_, rfl⟩
      rw [← hxx] at hcE
      have hx0 := HM.out.2.1.at2_bd i i
      have hs0 := HM.out.2.2.1 i
      have hsu := HM.out.2.2.2.1 i
      unfold at2 at hx0 hsu
      rw [← hxx] at hx0 hsu
      obtain ⟨s, hs⟩ : ∃ s, s = trTo m i := ⟨_, rfl⟩
      rw [← hs] at hs0 hsu ⊢
      have HS := Lib.hid hsu
      clear hsu hxx hrow hs
      go_wp2
      go_roundw
      case rel => exact ⟨i + 1, by omega, by go_num, by rw [HS.out], trivial⟩
      case measure => simp [intOf]; omega
    · have hin : i = n := by omega
      subst hin
      rw [HM.out.2.2.2.2.1]
      go_wp2
      go_ret
      exact ⟨rfl, Ext.refl _⟩

set_option maxRecDepth 100000 in
set_option maxHeartbeats 1000000 in
theorem laws_sameInts_same (v v' : Value) (xs : List Int) (w : World) (h : ReadsI w v xs) (h' : ReadsI w v' xs) :
    Calls Tryd.prog 17 #[v, v'] w fun e w' => e = .returned (.bool true) ∧ Ext w w' := by
  obtain ⟨pa, ca, rfl⟩ := h.slice
  obtain ⟨pb, cb, rfl⟩ := h'.slice
  obtain ⟨n, hn⟩ : ∃ n, n = xs.length := ⟨_, rfl⟩
  have hl1 := h.len.2
  have hl2 := h'.len.2
  rw [← hn] at h h' hl1 hl2 ⊢
  have HM := Lib.hid (And.intro h (And.intro h' hn))
  clear h h' hn
  go_enter Tryd.func17, Tryd.ntmps17
  go_wp2
  go_loopw [5] (fun q wr => ∃ i : Nat, i ≤ n ∧ q = .int .i64 i ∧ Ext w wr) (fun q _ => n - (intOf q).toNat)
  case atStart => exact ⟨0, by omega, rfl, Ext.refl _⟩
  case round =>
    obtain ⟨i, hi, rfl, hx⟩ := hrel
    by_cases hlti : i < n
    · obtain ⟨b, o, rfl, hc1⟩ := (HM.out.1.ext hx).at i (by rw [← HM.out.2.2]; exact hlti)
      obtain ⟨b', o', rfl, hc2⟩ := (HM.out.2.1.ext hx).at i (by rw [← HM.out.2.2]; exact hlti)
      obtain ⟨x, hxx⟩ : ∃ x, x = xs.getD i 0 := ⟨_, rfl⟩
      rw [← hxx] at hc1 hc2
      clear hxx
      go_wp2
      refine wp_region_inv (by kernel_rfl) (.known ?hx5_4_v0 :: .known ?hx5_4_v1 :: .known ?hx5_4_v2 :: .known ?hx5_4_v3 :: .known ?hx5_4_v4 :: .known ?hx5_4_v5 :: .known ?hx5_4_v6 :: .known ?hx5_4_v7 :: .known ?hx5_4_v8 :: []) rfl (by kernel_rfl) ?hx5_4_s ?hx5_4_p
      case hx5_4_s =>
        intro vs
        refine ⟨fun w' hxw hj => ?_, fun w' hxw hj => ?_, fun w' hxw hj => ?_, fun w' hxw hj => ?_, fun w' hxw hj => ?_, fun w' hxw hj => ?_, fun w' hxw hj => ?_, fun w' hxw hj => ?_, fun w' hxw hj => ?_, trivial⟩
        · have hc1 := Ext.cell_some hxw hc1
          have hc2 := Ext.cell_some hxw hc2
          clear hj
          go_simp
          try go_bits
          first | rfl | (rw [if_pos (by omega), if_pos (by omega)]; go_simp; rfl) | (rw [if_pos (by omega)]; go_simp; rfl) | skip
        · have hc1 := Ext.cell_some hxw hc1
          have hc2 := Ext.cell_some hxw hc2
          clear hj
          go_simp
          try go_bits
          first | rfl | (rw [if_pos (by omega), if_pos (by omega)]; go_simp; rfl) | (rw [if_pos (by omega)]; go_simp; rfl) | skip
        · have hc1 := Ext.cell_some hxw hc1
          have hc2 := Ext.cell_some hxw hc2
          clear hj
          go_simp
          try go_bits
          first | rfl | (rw [if_pos (by omega), if_pos (by omega)]; go_simp; rfl) | (rw [if_pos (by omega)]; go_simp; rfl) | skip
        · have hc1 := Ext.cell_some hxw hc1
          have hc2 := Ext.cell_some hxw hc2
          clear hj
          go_simp
          try go_bits
          first | rfl | (rw [if_pos (by omega), if_pos (by omega)]; go_simp; rfl) | (rw [if_pos (by omega)]; go_simp; rfl) | skip
        · have hc1 := Ext.cell_some hxw hc1
          have hc2 := Ext.cell_some hxw hc2
          clear hj
          go_simp
          try go_bits
          first | rfl | (rw [if_pos (by omega), if_pos (by omega)]; go_simp; rfl) | (rw [if_pos (by omega)]; go_simp; rfl) | skip
        · have hc1 := Ext.cell_some hxw hc1
          have hc2 := Ext.cell_some hxw hc2
          clear hj
          go_simp
          try go_bits
          first | rfl | (rw [if_pos (by omega), if_pos (by omega)]; go_simp; rfl) | (rw [if_pos (by omega)]; go_simp; rfl) | skip
        · have hc1 := Ext.cell_some hxw hc1
          have hc2 := Ext.cell_some hxw hc2
          clear hj
          go_simp
          try go_bits
          first | rfl | (rw [if_pos (by omega), if_pos (by omega)]; go_simp; rfl) | (rw [if_pos (by omega)]; go_simp; rfl) | skip
        · have hc1 := Ext.cell_some hxw hc1
          have hc2 := Ext.cell_some hxw hc2
          clear hj
          go_simp
          try go_bits
          first | rfl | (rw [if_pos (by omega), if_pos (by omega)]; go_simp; rfl) | (rw [if_pos (by omega)]; go_simp; rfl) | skip
        · have hc1 := Ext.cell_some hxw hc1
          have hc2 := Ext.cell_some hxw hc2
          clear hj
          go_simp
          try go_bits
          first | rfl | (rw [if_pos (by omega), if_pos (by omega)]; go_simp; rfl) | (rw [if_pos (by omega)]; go_simp; rfl) | skip
      case' hx5_4_p =>
        intro vs w5 hx5 hk
        clear hk
        replace hc1 := Ext.cell_some hx5 hc1
        replace hc2 := Ext.cell_some hx5 hc2
        replace hx := Ext.trans hx hx5
        go_simp
        clear hx5 hc1 hc2
        go_wp2
        go_roundw
        case rel => exact ⟨i + 1, by omega, by go_num, hx⟩
        case measure => simp [intOf]; omega
    · go_wp2
      go_ret
      exact ⟨rfl, hx⟩
end Go.Proofs.YtdngkfedkgiioaaDoor

/- Contracts: lists and shifts that are the same, paths counted, words in a language. -/
import Derived.Test.YtfiembmfkokllaaGreatPkB
import Derived.Test.YtfiembmfkokllaaGreatPkD
import Derived.Test.YtfiembmfkokllaaGreatShI
import Derived.Test.YtfiembmfkokllaaGreatCntA
import Derived.Test.YtfiembmfkokllaaGreatPkC
namespace Go.Proofs.YtfiembmfkokllaaGreat
open Go.RowKit Go.Cm Go.Mx

set_option maxRecDepth 100000 in
set_option maxHeartbeats 1000000 in
theorem laws_sameTexts_same (v v' : Value) (F : List (List UInt8)) (w : World) (h : ReadsW w v F) (h' : ReadsW w v' F) :
    Calls Tryz.prog 21 #[v, v'] w fun e w' => e = .returned (.bool true) ∧ Ext w w' := by
  obtain ⟨pa, ca, rfl⟩ := h.slice
  obtain ⟨pb, cb, rfl⟩ := h'.slice
  obtain ⟨n, hn⟩ : ∃ n, n = F.length := ⟨_, rfl⟩
  have hl1 := h.len.2
  have hl2 := h'.len.2
  rw [← hn] at h h' hl1 hl2 ⊢
  have HM := Lib.hid (And.intro h (And.intro h' hn))
  clear h h' hn
  go_enter Tryz.func21, Tryz.ntmps21
  go_wp2
  go_loopw [5] (fun q wr => ∃ i : Nat, i ≤ n ∧ q = .int .i64 i ∧ Ext w wr) (fun q _ => n - (intOf q).toNat)
  case atStart => exact ⟨0, by omega, rfl, Ext.refl _⟩
  case round =>
    obtain ⟨i, hi, rfl, hx⟩ := hrel
    by_cases hlti : i < n
    · obtain ⟨b, o, rfl, hc1⟩ := (HM.out.1.ext hx).at i (by rw [← HM.out.2.2]; exact hlti)
      obtain ⟨b', o', rfl, hc2⟩ := (HM.out.2.1.ext hx).at i (by rw [← HM.out.2.2]; exact hlti)
      obtain ⟨x, hxx⟩ : ∃ x, x = mkS (F.getD i []) := ⟨_, rfl⟩
      rw [← hxx] at hc1 hc2
      clear hxx
      go_wp2
      refine wp_region_inv (by kernel_rfl) (.known ?hx5_28_v0 :: .known ?hx5_28_v1 :: .known ?hx5_28_v2 :: .known ?hx5_28_v3 :: .known ?hx5_28_v4 :: .known ?hx5_28_v5 :: .known ?hx5_28_v6 :: .known ?hx5_28_v7 :: .known ?hx5_28_v8 :: []) rfl (by kernel_rfl) ?hx5_28_s ?hx5_28_p
      case hx5_28_s =>
        intro vs
        refine ⟨fun w' hxw hj => ?_, fun w' hxw hj => ?_, fun w' hxw hj => ?_, fun w' hxw hj => ?_, fun w' hxw hj => ?_, fun w' hxw hj => ?_, fun w' hxw hj => ?_, fun w' hxw hj => ?_, fun w' hxw hj => ?_, trivial⟩
        · have hc1 := Ext.cell_some hxw hc1
          have hc2 := Ext.cell_some hxw hc2
          clear hj
          go_simp
          try go_bits
          first | rfl | (rw [if_pos (by omega), if_pos (by omega)]; go_simp; rfl) | (rw [if_pos (by omega)]; go_simp; rfl) | skip
        · have hc1 := Ext.cell_some hxw hc1
          have hc2 := Ext.cell_some hxw hc2
          clear hj
          go_simp
          try go_bits
          first | rfl | (rw [if_pos (by omega), if_pos (by omega)]; go_simp; rfl) | (rw [if_pos (by omega)]; go_simp; rfl) | skip
        · have hc1 := Ext.cell_some hxw hc1
          have hc2 := Ext.cell_some hxw hc2
          clear hj
          go_simp
          try go_bits
          first | rfl | (rw [if_pos (by omega), if_pos (by omega)]; go_simp; rfl) | (rw [if_pos (by omega)]; go_simp; rfl) | skip
        · have hc1 := Ext.cell_some hxw hc1
          have hc2 := Ext.cell_some hxw hc2
          clear hj
          go_simp
          try go_bits
          first | rfl | (rw [if_pos (by omega), if_pos (by omega)]; go_simp; rfl) | (rw [if_pos (by omega)]; go_simp; rfl) | skip
        · have hc1 := Ext.cell_some hxw hc1
          have hc2 := Ext.cell_some hxw hc2
          clear hj
          go_simp
          try go_bits
          first | rfl | (rw [if_pos (by omega), if_pos (by omega)]; go_simp; rfl) | (rw [if_pos (by omega)]; go_simp; rfl) | skip
        · have hc1 := Ext.cell_some hxw hc1
          have hc2 := Ext.cell_some hxw hc2
          clear hj
          go_simp
          try go_bits
          first | rfl | (rw [if_pos (by omega), if_pos (by omega)]; go_simp; rfl) | (rw [if_pos (by omega)]; go_simp; rfl) | skip
        · have hc1 := Ext.cell_some hxw hc1
          have hc2 := Ext.cell_some hxw hc2
          clear hj
          go_simp
          try go_bits
          first | rfl | (rw [if_pos (by omega), if_pos (by omega)]; go_simp; rfl) | (rw [if_pos (by omega)]; go_simp; rfl) | skip
        · have hc1 := Ext.cell_some hxw hc1
          have hc2 := Ext.cell_some hxw hc2
          clear hj
          go_simp
          try go_bits
          first | rfl | (rw [if_pos (by omega), if_pos (by omega)]; go_simp; rfl) | (rw [if_pos (by omega)]; go_simp; rfl) | skip
        · have hc1 := Ext.cell_some hxw hc1
          have hc2 := Ext.cell_some hxw hc2
          clear hj
          go_simp
          try go_bits
          first | rfl | (rw [if_pos (by omega), if_pos (by omega)]; go_simp; rfl) | (rw [if_pos (by omega)]; go_simp; rfl) | skip
      case' hx5_28_p =>
        intro vs w5 hx5 hk
        clear hk
        replace hc1 := Ext.cell_some hx5 hc1
        replace hc2 := Ext.cell_some hx5 hc2
        replace hx := Ext.trans hx hx5
        go_simp
        clear hx5 hc1 hc2
        go_wp2
        go_roundw
        case rel => exact ⟨i + 1, by omega, by go_num, hx⟩
        case measure => simp [intOf]; omega
    · go_wp2
      go_ret
      exact ⟨rfl, hx⟩

set_option maxRecDepth 100000 in
set_option maxHeartbeats 1000000 in
theorem laws_sameInts_same (v v' : Value) (xs : List Int) (w : World) (h : ReadsI w v xs) (h' : ReadsI w v' xs) :
    Calls Tryz.prog 55 #[v, v'] w fun e w' => e = .returned (.bool true) ∧ Ext w w' := by
  obtain ⟨pa, ca, rfl⟩ := h.slice
  obtain ⟨pb, cb, rfl⟩ := h'.slice
  obtain ⟨n, hn⟩ : ∃ n, n = xs.length := ⟨_, rfl⟩
  have hl1 := h.len.2
  have hl2 := h'.len.2
  rw [← hn] at h h' hl1 hl2 ⊢
  have HM := Lib.hid (And.intro h (And.intro h' hn))
  clear h h' hn
  go_enter Tryz.func55, Tryz.ntmps55
  go_wp2
  go_loopw [5] (fun q wr => ∃ i : Nat, i ≤ n ∧ q = .int .i64 i ∧ Ext w wr) (fun q _ => n - (intOf q).toNat)
  case atStart => exact ⟨0, by omega, rfl, Ext.refl _⟩
  case round =>
    obtain ⟨i, hi, rfl, hx⟩ := hrel
    by_cases hlti : i < n
    · obtain ⟨b, o, rfl, hc1⟩ := (HM.out.1.ext hx).at i (by rw [← HM.out.2.2]; exact hlti)
      obtain ⟨b', o', rfl, hc2⟩ := (HM.out.2.1.ext hx).at i (by rw [← HM.out.2.2]; exact hlti)
      obtain ⟨x, hxx⟩ : ∃ x, x = xs.getD i 0 := ⟨_, rfl⟩
      rw [← hxx] at hc1 hc2
      clear hxx
      go_wp2
      refine wp_region_inv (by kernel_rfl) (.known ?hx5_29_v0 :: .known ?hx5_29_v1 :: .known ?hx5_29_v2 :: .known ?hx5_29_v3 :: .known ?hx5_29_v4 :: .known ?hx5_29_v5 :: .known ?hx5_29_v6 :: .known ?hx5_29_v7 :: .known ?hx5_29_v8 :: []) rfl (by kernel_rfl) ?hx5_29_s ?hx5_29_p
      case hx5_29_s =>
        intro vs
        refine ⟨fun w' hxw hj => ?_, fun w' hxw hj => ?_, fun w' hxw hj => ?_, fun w' hxw hj => ?_, fun w' hxw hj => ?_, fun w' hxw hj => ?_, fun w' hxw hj => ?_, fun w' hxw hj => ?_, fun w' hxw hj => ?_, trivial⟩
        · have hc1 := Ext.cell_some hxw hc1
          have hc2 := Ext.cell_some hxw hc2
          clear hj
          go_simp
          try go_bits
          first | rfl | (rw [if_pos (by omega), if_pos (by omega)]; go_simp; rfl) | (rw [if_pos (by omega)]; go_simp; rfl) | skip
        · have hc1 := Ext.cell_some hxw hc1
          have hc2 := Ext.cell_some hxw hc2
          clear hj
          go_simp
          try go_bits
          first | rfl | (rw [if_pos (by omega), if_pos (by omega)]; go_simp; rfl) | (rw [if_pos (by omega)]; go_simp; rfl) | skip
        · have hc1 := Ext.cell_some hxw hc1
          have hc2 := Ext.cell_some hxw hc2
          clear hj
          go_simp
          try go_bits
          first | rfl | (rw [if_pos (by omega), if_pos (by omega)]; go_simp; rfl) | (rw [if_pos (by omega)]; go_simp; rfl) | skip
        · have hc1 := Ext.cell_some hxw hc1
          have hc2 := Ext.cell_some hxw hc2
          clear hj
          go_simp
          try go_bits
          first | rfl | (rw [if_pos (by omega), if_pos (by omega)]; go_simp; rfl) | (rw [if_pos (by omega)]; go_simp; rfl) | skip
        · have hc1 := Ext.cell_some hxw hc1
          have hc2 := Ext.cell_some hxw hc2
          clear hj
          go_simp
          try go_bits
          first | rfl | (rw [if_pos (by omega), if_pos (by omega)]; go_simp; rfl) | (rw [if_pos (by omega)]; go_simp; rfl) | skip
        · have hc1 := Ext.cell_some hxw hc1
          have hc2 := Ext.cell_some hxw hc2
          clear hj
          go_simp
          try go_bits
          first | rfl | (rw [if_pos (by omega), if_pos (by omega)]; go_simp; rfl) | (rw [if_pos (by omega)]; go_simp; rfl) | skip
        · have hc1 := Ext.cell_some hxw hc1
          have hc2 := Ext.cell_some hxw hc2
          clear hj
          go_simp
          try go_bits
          first | rfl | (rw [if_pos (by omega), if_pos (by omega)]; go_simp; rfl) | (rw [if_pos (by omega)]; go_simp; rfl) | skip
        · have hc1 := Ext.cell_some hxw hc1
          have hc2 := Ext.cell_some hxw hc2
          clear hj
          go_simp
          try go_bits
          first | rfl | (rw [if_pos (by omega), if_pos (by omega)]; go_simp; rfl) | (rw [if_pos (by omega)]; go_simp; rfl) | skip
        · have hc1 := Ext.cell_some hxw hc1
          have hc2 := Ext.cell_some hxw hc2
          clear hj
          go_simp
          try go_bits
          first | rfl | (rw [if_pos (by omega), if_pos (by omega)]; go_simp; rfl) | (rw [if_pos (by omega)]; go_simp; rfl) | skip
      case' hx5_29_p =>
        intro vs w5 hx5 hk
        clear hk
        replace hc1 := Ext.cell_some hx5 hc1
        replace hc2 := Ext.cell_some hx5 hc2
        replace hx := Ext.trans hx hx5
        go_simp
        clear hx5 hc1 hc2
        go_wp2
        go_roundw
        case rel => exact ⟨i + 1, by omega, by go_num, hx⟩
        case measure => simp [intOf]; omega
    · go_wp2
      go_ret
      exact ⟨rfl, hx⟩

set_option maxRecDepth 100000 in
set_option maxHeartbeats 2000000 in
theorem laws_sameLists_same (v v' : Value) (T : List (List Int)) (w : World) (h : ReadsRows w v T) (h' : ReadsRows w v' T) :
    Calls Tryz.prog 15 #[v, v'] w fun e w' => e = .returned (.bool true) ∧ Ext w w' := by
  obtain ⟨pa, ca, rfl⟩ := h.slice
  obtain ⟨pb, cb, rfl⟩ := h'.slice
  obtain ⟨n, hn⟩ : ∃ n, n = T.length := ⟨_, rfl⟩
  have hl1 := h.len.2
  have hl2 := h'.len.2
  rw [← hn] at h h' hl1 hl2 ⊢
  have HM := Lib.hid (And.intro h (And.intro h' hn))
  clear h h' hn
  go_enter Tryz.func15, Tryz.ntmps15
  go_wp2
  go_loopw [5] (fun q wr => ∃ i : Nat, i ≤ n ∧ q = .int .i64 i ∧ Ext w wr) (fun q _ => n - (intOf q).toNat)
  case atStart => exact ⟨0, by omega, rfl, Ext.refl _⟩
  case round =>
    obtain ⟨i, hi, rfl, hx⟩ := hrel
    by_cases hlti : i < n
    · obtain ⟨b, o, a1, k1, rfl, hc1, hr1⟩ := (HM.out.1.ext hx).at i (by rw [← HM.out.2.2]; exact hlti)
      obtain ⟨b', o', a2, k2, rfl, hc2, hr2⟩ := (HM.out.2.1.ext hx).at i (by rw [← HM.out.2.2]; exact hlti)
      obtain ⟨r, hrr⟩ : ∃ r, r = T.getD i [] := ⟨_, rfl⟩
      rw [← hrr] at hc1 hc2 hr1 hr2
      have HR := Lib.hid (And.intro hr1 hr2)
      clear hrr hr1 hr2
      go_wp2
      refine wp_region_inv (by kernel_rfl) (.known ?hx5_30_v0 :: .known ?hx5_30_v1 :: .known ?hx5_30_v2 :: .known ?hx5_30_v3 :: .known ?hx5_30_v4 :: .known ?hx5_30_v5 :: .known ?hx5_30_v6 :: .known ?hx5_30_v7 :: .known (.bool true) :: .known ?hx5_30_v9 :: []) rfl (by kernel_rfl) ?hx5_30_s ?hx5_30_p
      case hx5_30_s =>
        intro vs
        refine ⟨fun w' hxw hj => ?_, fun w' hxw hj => ?_, fun w' hxw hj => ?_, fun w' hxw hj => ?_, fun w' hxw hj => ?_, fun w' hxw hj => ?_, fun w' hxw hj => ?_, fun w' hxw hj => ?_, fun w' hxw hj => ?_, fun w' hxw hj => ?_, trivial⟩
        · have hc1 := Ext.cell_some hxw hc1
          have hc2 := Ext.cell_some hxw hc2
          clear hj
          go_simp
          try go_bits
          first | rfl | (rw [if_pos (by omega), if_pos (by omega)]; go_simp; rfl) | (rw [if_pos (by omega)]; go_simp; rfl) | skip
        · have hc1 := Ext.cell_some hxw hc1
          have hc2 := Ext.cell_some hxw hc2
          clear hj
          go_simp
          try go_bits
          first | rfl | (rw [if_pos (by omega), if_pos (by omega)]; go_simp; rfl) | (rw [if_pos (by omega)]; go_simp; rfl) | skip
        · have hc1 := Ext.cell_some hxw hc1
          have hc2 := Ext.cell_some hxw hc2
          clear hj
          go_simp
          try go_bits
          first | rfl | (rw [if_pos (by omega), if_pos (by omega)]; go_simp; rfl) | (rw [if_pos (by omega)]; go_simp; rfl) | skip
        · have hc1 := Ext.cell_some hxw hc1
          have hc2 := Ext.cell_some hxw hc2
          clear hj
          go_simp
          try go_bits
          first | rfl | (rw [if_pos (by omega), if_pos (by omega)]; go_simp; rfl) | (rw [if_pos (by omega)]; go_simp; rfl) | skip
        · have hc1 := Ext.cell_some hxw hc1
          have hc2 := Ext.cell_some hxw hc2
          clear hj
          go_simp
          try go_bits
          first | rfl | (rw [if_pos (by omega), if_pos (by omega)]; go_simp; rfl) | (rw [if_pos (by omega)]; go_simp; rfl) | skip
        · have hc1 := Ext.cell_some hxw hc1
          have hc2 := Ext.cell_some hxw hc2
          clear hj
          go_simp
          try go_bits
          first | rfl | (rw [if_pos (by omega), if_pos (by omega)]; go_simp; rfl) | (rw [if_pos (by omega)]; go_simp; rfl) | skip
        · have hc1 := Ext.cell_some hxw hc1
          have hc2 := Ext.cell_some hxw hc2
          clear hj
          go_simp
          try go_bits
          first | rfl | (rw [if_pos (by omega), if_pos (by omega)]; go_simp; rfl) | (rw [if_pos (by omega)]; go_simp; rfl) | skip
        · have hc1 := Ext.cell_some hxw hc1
          have hc2 := Ext.cell_some hxw hc2
          clear hj
          go_simp
          try go_bits
          first | rfl | (rw [if_pos (by omega), if_pos (by omega)]; go_simp; rfl) | (rw [if_pos (by omega)]; go_simp; rfl) | skip
        · have hc1 := Ext.cell_some hxw hc1
          have hc2 := Ext.cell_some hxw hc2
          clear hj
          go_simp
          try go_bits
          exact laws_sameInts_same _ _ r _ (HR.out.1.ext hxw) (HR.out.2.ext hxw)
        · have hc1 := Ext.cell_some hxw hc1
          have hc2 := Ext.cell_some hxw hc2
          clear hj
          go_simp
          try go_bits
          first | rfl | (rw [if_pos (by omega), if_pos (by omega)]; go_simp; rfl) | (rw [if_pos (by omega)]; go_simp; rfl) | skip
      case' hx5_30_p =>
        intro vs w5 hx5 hk
        clear hk
        replace hc1 := Ext.cell_some hx5 hc1
        replace hc2 := Ext.cell_some hx5 hc2
        replace hx := Ext.trans hx hx5
        go_simp
        clear hx5 hc1 hc2
        go_wp2
        go_roundw
        case rel => exact ⟨i + 1, by omega, by go_num, hx⟩
        case measure => simp [intOf]; omega
    · go_wp2
      go_ret
      exact ⟨rfl, hx⟩

theorem laws_sameShift_same (L : Int) (v v' : Value) (F : List (List UInt8)) (w : World) (h : ReadsW w v F) (h' : ReadsW w v' F) :
    Calls Tryz.prog 16 #[.agg #[.int .i64 L, v], .agg #[.int .i64 L, v']] w fun e w' => e = .returned (.bool true) ∧ Ext w w' := by
  obtain ⟨a, c, rfl⟩ := h.slice
  obtain ⟨a', c', rfl⟩ := h'.slice
  have hx := (Ext.alloc w (.cells #[.int .i64 L, .slice a F.length c] 26)).trans (Ext.alloc _ (.cells #[.int .i64 L, .slice a' F.length c'] 26))
  have HS := Lib.hid (And.intro (h.ext hx) (h'.ext hx))
  clear h h'
  go_enter Tryz.func16, Tryz.ntmps16
  go_wp2_with fail
  with_reducible refine (laws_sameTexts_same _ _ F _ HS.out.1 HS.out.2).mono ?_
  rintro e w1 ⟨rfl, hx1⟩
  go_wp2
  go_ret
  exact ⟨rfl, hx.trans hx1⟩

/-- the paths of a graph, counted -/
theorem spec_CountPaths_graph (v : Value) (m : List (List Int)) (k : Nat) (w : World) (h : ReadsRows w v m) (h1 : 1 ≤ m.length) (h9 : m.length ≤ 9) (hr : ∀ i, i < m.length → (m.getD i []).length = m.length) (h01 : ∀ i j, 0 ≤ at2 m i j ∧ at2 m i j ≤ 1) (hk : k ≤ 6) :
    Calls Tryz.prog 25 #[v, .int .i64 k] w fun e w' => e = .returned (.int .i64 (sumN m.length (colC (at2 m) m.length k))) ∧ Ext w w' := by
  obtain ⟨p, hp, hg⟩ := pow_graph h1 h9 hr h01 k hk
  have hmm : isMat m = true := by
    have := tabF_isMat (F := at2 m) h1 h9 fun i j _ _ => by have := h01 i j; omega
    rwa [tabF_of rfl hr] at this
  have hpo : powO m (k : Int) = some p := by rw [powO_yes hmm (by omega), hp]
  have hpm := spec_PowerMatrix_any v m k w h
  rw [hpo] at hpm
  have hrp := (isMat_yes hg.mat).row
  rw [hg.len] at hrp
  have hsum := pow_sum hg hrp
  have hsv : sumV p = sumN m.length (colC (at2 m) m.length k) := by rw [sumV_yes hg.mat, hsum]
  have HP := Lib.hid (And.intro hpm hsv)
  clear hpm hsv hsum hrp hpo hmm hg hp h h01 hr
  go_enter Tryz.func25, Tryz.ntmps25
  go_wp2_with fail
  with_reducible refine HP.out.1.mono ?_
  rintro e w1 ⟨u, rfl, hu, hx⟩
  have hsu := spec_SumOf_any u p w1 hu
  rw [HP.out.2] at hsu
  have HS := Lib.hid hsu
  clear hsu hu
  go_wp2_with fail
  with_reducible refine HS.out.mono ?_
  rintro e w2 ⟨rfl, rfl⟩
  go_wp2
  go_ret
  exact ⟨rfl, hx⟩
end Go.Proofs.YtfiembmfkokllaaGreat

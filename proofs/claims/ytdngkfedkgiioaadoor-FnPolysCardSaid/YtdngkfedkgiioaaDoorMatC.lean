/- Contracts: sums of rows, of the program and of the reference. -/
import Derived.Test.YtdngkfedkgiioaaDoorPkC
namespace Go.Proofs.YtdngkfedkgiioaaDoor
open Go.RowKit Go.Mx

set_option maxRecDepth 100000 in
set_option maxHeartbeats 2000000 in
theorem impl_RowBounds_yes (v : Value) (m : List (List Int)) (w : World) (h : ReadsRows w v m) (hm : isMat m = true) :
    Calls Tryd.prog 33 #[v] w fun e w' => e = .returned (.tuple #[.int .i64 (minTo (rowS m) m.length), .int .i64 (maxTo (rowS m) m.length)]) ∧ Ext w w' := by
  have hi := impl_IsMatrix_any v m w h
  rw [hm] at hi
  have hM := isMat_yes hm
  have h1 := hM.pos
  have h9 := hM.le
  obtain ⟨a, c, rfl⟩ := h.slice
  obtain ⟨-, hlc, hc⟩ := h.len
  obtain ⟨n, hn⟩ : ∃ n, n = m.length := ⟨_, rfl⟩
  rw [← hn] at hlc h hM h1 h9 hi ⊢
  obtain ⟨b, o, a0, c0, rfl, hcell0, hrow0⟩ := h.at 0 (by omega)
  have htot : ∀ (w' : World) (i : Nat) (u : Value), i < n → ReadsI w' u (m.getD i []) → Calls Tryd.prog 70 #[u] w' fun e w'' => e = .returned (.int .i64 (rowS m i)) ∧ w' = w'' := fun w' i u hi hu =>
    impl_total_any u _ w' hu (by rw [hM.row i hi]; omega) (fun j => ⟨hM.low i j, hM.high i j⟩)
  rw [hM.row 0 (by omega)] at hcell0 hrow0
  rw [Nat.add_zero] at hcell0
  have HM := Lib.hid (And.intro h (And.intro hn (And.intro hM (And.intro hi (And.intro htot (And.intro hrow0 hcell0))))))
  clear h hn hM hm hi htot hrow0 hcell0
  go_enter Tryd.func33, Tryd.ntmps33
  go_wp2_with (go_at_call 63; with_reducible refine HM.out.2.2.2.1.mono ?_; rintro e w' ⟨rfl, rfl⟩)
  have hcell0 := HM.out.2.2.2.2.2.2
  have E0 := Ext.refl w
  refine wp_region_inv (by kernel_rfl) (.known ?hx2_14_v0 :: .known ?hx2_14_v1 :: .known ?hx2_14_v2 :: .known (.int .i64 (rowS m 0)) :: .known ?hx2_14_v4 :: .known ?hx2_14_v5 :: .known ?hx2_14_v6 :: .known (.int .i64 (rowS m 0)) :: .known ?hx2_14_v8 :: .known ?hx2_14_v9 :: []) rfl (by kernel_rfl) ?hx2_14_s ?hx2_14_p
  case hx2_14_s =>
    intro vs
    refine ⟨fun w' hxw hj => ?_, fun w' hxw hj => ?_, fun w' hxw hj => ?_, fun w' hxw hj => ?_, fun w' hxw hj => ?_, fun w' hxw hj => ?_, fun w' hxw hj => ?_, fun w' hxw hj => ?_, fun w' hxw hj => ?_, fun w' hxw hj => ?_, trivial⟩
    · have hcell0 := Ext.cell_some hxw hcell0
      clear hj
      go_simp
      try go_bits
      first | rfl | (rw [if_pos (by omega), if_pos (by omega)]; go_simp; rfl) | (rw [if_pos (by omega)]; go_simp; rfl) | skip
    · have hcell0 := Ext.cell_some hxw hcell0
      clear hj
      go_simp
      try go_bits
      first | rfl | (rw [if_pos (by omega), if_pos (by omega)]; go_simp; rfl) | (rw [if_pos (by omega)]; go_simp; rfl) | skip
    · have hcell0 := Ext.cell_some hxw hcell0
      clear hj
      go_simp
      try go_bits
      first | rfl | (rw [if_pos (by omega), if_pos (by omega)]; go_simp; rfl) | (rw [if_pos (by omega)]; go_simp; rfl) | skip
    · have hcell0 := Ext.cell_some hxw hcell0
      clear hj
      go_simp
      try go_bits
      exact (HM.out.2.2.2.2.1 _ 0 _ (by omega) (HM.out.2.2.2.2.2.1.ext hxw)).mono fun _ _ ⟨h1, h2⟩ => ⟨h1, h2 ▸ Ext.refl _⟩
    · have hcell0 := Ext.cell_some hxw hcell0
      clear hj
      go_simp
      try go_bits
      first | rfl | (rw [if_pos (by omega), if_pos (by omega)]; go_simp; rfl) | (rw [if_pos (by omega)]; go_simp; rfl) | skip
    · have hcell0 := Ext.cell_some hxw hcell0
      clear hj
      go_simp
      try go_bits
      first | rfl | (rw [if_pos (by omega), if_pos (by omega)]; go_simp; rfl) | (rw [if_pos (by omega)]; go_simp; rfl) | skip
    · have hcell0 := Ext.cell_some hxw hcell0
      clear hj
      go_simp
      try go_bits
      first | rfl | (rw [if_pos (by omega), if_pos (by omega)]; go_simp; rfl) | (rw [if_pos (by omega)]; go_simp; rfl) | skip
    · have hcell0 := Ext.cell_some hxw hcell0
      clear hj
      go_simp
      try go_bits
      exact (HM.out.2.2.2.2.1 _ 0 _ (by omega) (HM.out.2.2.2.2.2.1.ext hxw)).mono fun _ _ ⟨h1, h2⟩ => ⟨h1, h2 ▸ Ext.refl _⟩
    · have hcell0 := Ext.cell_some hxw hcell0
      clear hj
      go_simp
      try go_bits
      first | rfl | (rw [if_pos (by omega), if_pos (by omega)]; go_simp; rfl) | (rw [if_pos (by omega)]; go_simp; rfl) | skip
    · have hcell0 := Ext.cell_some hxw hcell0
      clear hj
      go_simp
      try go_bits
      first | rfl | (rw [if_pos (by omega), if_pos (by omega)]; go_simp; rfl) | (rw [if_pos (by omega)]; go_simp; rfl) | skip
  case' hx2_14_p =>
    intro vs w2 hx2 hk
    clear hk
    replace hcell0 := Ext.cell_some hx2 hcell0
    replace E0 := Ext.trans E0 hx2
    go_simp
    clear hx2 hcell0
    go_wp2
    go_loopw [4, 5, 21] (fun x y i wr => ∃ k : Nat, k ≤ n ∧ i = .int .i64 k ∧ x = .int .i64 (minTo (rowS m) k) ∧ y = .int .i64 (maxTo (rowS m) k) ∧ Ext w wr) (fun _ _ i _ => n - (intOf i).toNat)
    case atStart => exact ⟨0, by omega, rfl, rfl, rfl, E0⟩
    case round =>
      clear E0
      obtain ⟨k, hk, rfl, rfl, rfl, hx⟩ := hrel
      by_cases hlt : k < n
      · obtain ⟨b', o', a', c', hb, hcell, hrow⟩ := (HM.out.1.ext hx).at k (by rw [← HM.out.2.1]; exact hlt)
        obtain ⟨rfl, rfl⟩ : b = b' ∧ o = o' := by injection hb with hb; injection hb with h1 h2 h3; exact ⟨h1, h2⟩
        rw [HM.out.2.2.1.row k hlt] at hcell hrow
        have hbd := HM.out.2.2.1.rowS_bd k
        have hmn := minTo_bd (fun i => HM.out.2.2.1.rowS_bd i) k
        have hmx := maxTo_bd (fun i => HM.out.2.2.1.rowS_bd i) k
        have hct := HM.out.2.2.2.2.1 wr k _ hlt hrow
        obtain ⟨s, hs⟩ : ∃ s, s = rowS m k := ⟨_, rfl⟩
        obtain ⟨p, hp⟩ : ∃ p, p = minTo (rowS m) k := ⟨_, rfl⟩
        obtain ⟨q, hq⟩ : ∃ q, q = maxTo (rowS m) k := ⟨_, rfl⟩
        rw [← hs] at hct
        rw [← hp, ← hq]
        have HC := Lib.hid (And.intro hct (And.intro hs (And.intro hp hq)))
        clear hct hs hp hq hb hbd hmn hmx
        rcases Int.lt_or_le s p with hsp | hsp
        all_goals rcases Int.lt_or_le q s with hqs | hqs
        all_goals
          go_wp2_with fail
          with_reducible refine HC.out.1.mono ?_
          rintro e w' ⟨rfl, rfl⟩
          go_wp2_with fail
          with_reducible refine HC.out.1.mono ?_
          rintro e w' ⟨rfl, rfl⟩
          go_wp2
          go_roundw
          case rel => exact ⟨k + 1, by omega, by go_num, by simp only [minTo]; rw [← HC.out.2.1, ← HC.out.2.2.1]; congr 1; omega, by simp only [maxTo]; rw [← HC.out.2.1, ← HC.out.2.2.2]; congr 1; omega, hx⟩
          case measure => simp [intOf]; omega
      · have hkn : k = n := by omega
        subst hkn
        go_wp2
        go_ret2
        exact ⟨rfl, hx⟩

set_option maxHeartbeats 1000000 in
theorem impl_RowBounds_no (v : Value) (m : List (List Int)) (w : World) (h : ReadsRows w v m) (hm : isMat m = false) :
    Calls Tryd.prog 33 #[v] w fun e w' => e = .returned (.tuple #[.int .i64 0, .int .i64 0]) ∧ Ext w w' := by
  have hi := impl_IsMatrix_any v m w h
  rw [hm] at hi
  have HI := Lib.hid hi
  clear hi hm
  go_enter Tryd.func33, Tryd.ntmps33
  go_wp2_with (go_at_call 63; with_reducible refine HI.out.mono ?_; rintro e w' ⟨rfl, rfl⟩)
  go_ret2
  exact ⟨rfl, Ext.refl _⟩

set_option maxHeartbeats 1000000 in
theorem spec_RowBounds_no (v : Value) (m : List (List Int)) (w : World) (h : ReadsRows w v m) (hm : isMat m = false) :
    Calls Tryd.prog 34 #[v] w fun e w' => e = .returned (.tuple #[.int .i64 0, .int .i64 0]) ∧ Ext w w' := by
  have hi := spec_IsMatrix_any v m w h
  rw [hm] at hi
  have HI := Lib.hid hi
  clear hi hm
  go_enter Tryd.func34, Tryd.ntmps34
  go_wp2_with (go_at_call 64; with_reducible refine HI.out.mono ?_; rintro e w' ⟨rfl, rfl⟩)
  go_ret2
  exact ⟨rfl, Ext.refl _⟩

set_option maxRecDepth 100000 in
set_option maxHeartbeats 2000000 in
theorem spec_RowBounds_yes (v : Value) (m : List (List Int)) (w : World) (h : ReadsRows w v m) (hm : isMat m = true) :
    Calls Tryd.prog 34 #[v] w fun e w' => e = .returned (.tuple #[.int .i64 (minTo (rowS m) m.length), .int .i64 (maxTo (rowS m) m.length)]) ∧ Ext w w' := by
  have hi := spec_IsMatrix_any v m w h
  rw [hm] at hi
  have hM := isMat_yes hm
  have h1 := hM.pos
  have h9 := hM.le
  obtain ⟨a, c, rfl⟩ := h.slice
  obtain ⟨-, hlc, hc⟩ := h.len
  obtain ⟨n, hn⟩ : ∃ n, n = m.length := ⟨_, rfl⟩
  rw [← hn] at hlc h hM h1 h9 hi ⊢
  have HM := Lib.hid (And.intro h (And.intro hn (And.intro hM hi)))
  clear h hn hM hm hi
  rw [← minFrom_n _ n h1, ← maxFrom_n _ n h1]
  go_enter Tryd.func34, Tryd.ntmps34
  go_wp2_with (go_at_call 64; with_reducible refine HM.out.2.2.2.mono ?_; rintro e w' ⟨rfl, rfl⟩)
  go_loop [4, 5, 6] (fun x y i => ∃ k : Nat, k ≤ n ∧ i = .int .i64 k ∧ x = .int .i64 (minFrom (rowS m) k) ∧ y = .int .i64 (maxFrom (rowS m) k)) (fun _ _ i => n - (intOf i).toNat)
  case atStart => exact ⟨0, by omega, rfl, rfl, rfl⟩
  case round =>
    obtain ⟨k, hk, rfl, rfl, rfl⟩ := hrel
    by_cases hlt : k < n
    · have hkm : k < m.length := by rw [← HM.out.2.1]; exact hlt
      obtain ⟨b, o, a', c', rfl, hcell, hrow⟩ := HM.out.1.at k hkm
      rw [HM.out.2.2.1.row k hlt] at hcell hrow
      obtain ⟨r, hr⟩ : ∃ r, r = m.getD k [] := ⟨_, rfl⟩
      rw [← hr] at hrow
      have hrl : r.length = n := by rw [hr]; exact HM.out.2.2.1.row k hlt
      have hrb : ∀ j, 0 ≤ r.getD j 0 ∧ r.getD j 0 ≤ 1000000 := fun j => by rw [hr]; exact ⟨HM.out.2.2.1.low k j, HM.out.2.2.1.high k j⟩
      have hsum : r.sum = rowS m k := by rw [hr]; rfl
      obtain ⟨p, hp⟩ : ∃ p, p = minFrom (rowS m) k := ⟨_, rfl⟩
      obtain ⟨q, hq⟩ : ∃ q, q = maxFrom (rowS m) k := ⟨_, rfl⟩
      rw [← hp, ← hq]
      have HR := Lib.hid (And.intro hrow (And.intro hrl (And.intro hrb (And.intro hsum (And.intro hp hq)))))
      clear hr hrl hrb hsum hp hq hrow
      go_wp2
      go_loop [7, 8] (fun s i => ∃ j : Nat, j ≤ n ∧ i = .int .i64 j ∧ s = .int .i64 (r.take j).sum) (fun _ i => n - (intOf i).toNat)
      case atStart => exact ⟨0, by omega, rfl, by simp⟩
      case round =>
        obtain ⟨j, hj, rfl, rfl⟩ := hrel
        by_cases hltj : j < n
        · have hjr : j < r.length := by rw [HR.out.2.1]; exact hltj
          obtain ⟨b', o', rfl, hcell'⟩ := HR.out.1.at j hjr
          have hs := sum_take_succ r j hjr
          obtain ⟨hb1, hb2⟩ := sum_take_pos r 1000000 (by omega) HR.out.2.2.1 j
          obtain ⟨hy1, hy2⟩ := HR.out.2.2.1 j
          obtain ⟨y, hy⟩ : ∃ y, y = r.getD j 0 := ⟨_, rfl⟩
          obtain ⟨s, hss⟩ : ∃ s, s = (r.take j).sum := ⟨_, rfl⟩
          rw [← hy] at hcell' hs hy1 hy2
          rw [← hss] at hs hb1 hb2 ⊢
          have hb3 : s ≤ 1000000000 := by omega
          have HS := Lib.hid hs
          clear hs hy hss hb2
          go_wp2
          go_round
          case rel => exact ⟨j + 1, by omega, by go_num, by rw [HS.out]⟩
          case measure => simp [intOf]; omega
        · have hjn : j = n := by omega
          have e : (r.take j).sum = rowS m k := by rw [hjn, ← HR.out.2.1, List.take_length]; exact HR.out.2.2.2.1
          rw [e]
          have hbd := HM.out.2.2.1.rowS_bd k
          have hb0 := (HM.out.2.2.1.rowS_bd 0).1
          have hms := maxFrom_succ (rowS m) k hb0
          obtain ⟨s, hs⟩ : ∃ s, s = rowS m k := ⟨_, rfl⟩
          rw [← hs]
          have HS := Lib.hid (And.intro hs (And.intro hms trivial))
          clear e hs hms hbd hb0
          subst hjn
          by_cases hk0 : k = 0
          · subst hk0
            have HF := Lib.hid (minFrom_one (rowS m))
            go_wp2_with fail
            with_reducible refine (spec_l1Max_any _ _ _).mono ?_
            rintro e w' ⟨rfl, rfl⟩
            go_wp2
            go_round
            case rel => exact ⟨1, by omega, by go_num, by rw [HF.out, HS.out.1], by rw [HS.out.2.1, ← HR.out.2.2.2.2.2, ← HS.out.1]⟩
            case measure => simp [intOf]; omega
          · have hk0b : ((k : Int) == 0) = false := by simp; omega
            by_cases hsp : s < p
            · have HF := Lib.hid (minFrom_hit (rowS m) k (by omega) (by rw [← HS.out.1, ← HR.out.2.2.2.2.1]; exact hsp))
              clear hk0
              go_wp2_with fail
              with_reducible refine (spec_l1Max_any _ _ _).mono ?_
              rintro e w' ⟨rfl, rfl⟩
              go_wp2
              go_round
              case rel => exact ⟨k + 1, by omega, by go_num, by rw [HF.out, HS.out.1], by rw [HS.out.2.1, ← HR.out.2.2.2.2.2, ← HS.out.1]⟩
              case measure => simp [intOf]; omega
            · have HF := Lib.hid (minFrom_miss (rowS m) k (by omega) (by rw [← HS.out.1, ← HR.out.2.2.2.2.1]; exact hsp))
              clear hk0
              go_wp2_with fail
              with_reducible refine (spec_l1Max_any _ _ _).mono ?_
              rintro e w' ⟨rfl, rfl⟩
              go_wp2
              go_round
              case rel => exact ⟨k + 1, by omega, by go_num, by rw [HF.out, ← HR.out.2.2.2.2.1], by rw [HS.out.2.1, ← HR.out.2.2.2.2.2, ← HS.out.1]⟩
              case measure => simp [intOf]; omega
    · have hkn : k = n := by omega
      subst hkn
      go_wp2
      go_ret2
      exact ⟨rfl, Ext.refl _⟩
end Go.Proofs.YtdngkfedkgiioaaDoor

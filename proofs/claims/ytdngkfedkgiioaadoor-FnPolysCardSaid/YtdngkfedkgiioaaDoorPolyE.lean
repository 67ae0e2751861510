/- Contracts: products of polynomials, by the reference. -/
import Derived.Test.YtdngkfedkgiioaaDoorPolyC
namespace Go.Proofs.YtdngkfedkgiioaaDoor
open Go.RowKit Go.Mx

set_option maxRecDepth 100000 in
set_option maxHeartbeats 2000000 in
theorem spec_MultiplyPolys_any (v v' : Value) (a b : List Int) (w : World) (h : ReadsI w v a) (h' : ReadsI w v' b) :
    Calls Tryd.prog 20 #[v, v'] w fun e w' => ∃ u, e = .returned u ∧ ReadsI w' u (polyMul a b) ∧ Ext w w' := by
  have ha := fun w h => spec_l7Fits_any v a 30 30 w h (by omega) rfl
  have hb := fun w h => spec_l7Fits_any v' b 30 30 w h (by omega) rfl
  cases hna : numsOk 30 a with
  | false =>
    have e1 : polyMul a b = [] := polyMul_no (by rw [hna]; rfl)
    rw [e1]
    simp only [hna] at ha
    have HA := Lib.hid (ha w h)
    clear ha hb e1 hna
    go_enter Tryd.func20, Tryd.ntmps20
    go_wp2_with (go_at_call 60; with_reducible refine HA.out.mono ?_; rintro e w' ⟨rfl, rfl⟩)
    go_ret
    exact ⟨_, rfl, ReadsI.nil _ _, Ext.alloc _ _⟩
  | true => cases hnb : numsOk 30 b with
  | false =>
    have e1 : polyMul a b = [] := polyMul_no (by rw [hnb]; simp)
    rw [e1]
    simp only [hna] at ha
    simp only [hnb] at hb
    have HA := Lib.hid (And.intro (ha w h) (hb w h'))
    clear ha hb e1 hna hnb
    go_enter Tryd.func20, Tryd.ntmps20
    go_wp2_with (first | (go_at_call 60; with_reducible refine HA.out.1.mono ?_; rintro e w' ⟨rfl, rfl⟩) | (go_at_call 60; with_reducible refine HA.out.2.mono ?_; rintro e w' ⟨rfl, rfl⟩))
    go_ret
    exact ⟨_, rfl, ReadsI.nil _ _, Ext.alloc _ _⟩
  | true =>
    simp only [hna] at ha
    simp only [hnb] at hb
    obtain ⟨hla, hba⟩ := numsOk_yes hna
    obtain ⟨hlb, hbb⟩ := numsOk_yes hnb
    have HA := Lib.hid (And.intro (ha w h) (hb w h'))
    clear ha hb
    obtain ⟨p, c, rfl⟩ := h.slice
    obtain ⟨p', c', rfl⟩ := h'.slice
    have hlena := h.len
    have hlenb := h'.len
    by_cases h0 : a.length = 0
    · have e1 := polyMul_empty (a := a) (b := b) (.inl h0)
      rw [e1]
      rw [h0] at HA ⊢
      clear e1 hna hnb hba hbb hlena
      go_enter Tryd.func20, Tryd.ntmps20
      go_wp2_with (first | (go_at_call 60; with_reducible refine HA.out.1.mono ?_; rintro e w' ⟨rfl, rfl⟩) | (go_at_call 60; with_reducible refine HA.out.2.mono ?_; rintro e w' ⟨rfl, rfl⟩))
      go_ret
      exact ⟨_, rfl, ReadsI.nil _ _, Ext.alloc _ _⟩
    by_cases h0' : b.length = 0
    · have e1 := polyMul_empty (a := a) (b := b) (.inr h0')
      rw [e1]
      obtain ⟨n, hn⟩ : ∃ n, n = a.length := ⟨_, rfl⟩
      rw [← hn] at h0 HA ⊢
      rw [h0'] at HA ⊢
      have hz : ((n : Int) == 0) = false := by simp; omega
      clear e1 hna hnb hba hbb hlena hlenb h0 h h' h0' hn
      go_enter Tryd.func20, Tryd.ntmps20
      go_wp2_with (first | (go_at_call 60; with_reducible refine HA.out.1.mono ?_; rintro e w' ⟨rfl, rfl⟩) | (go_at_call 60; with_reducible refine HA.out.2.mono ?_; rintro e w' ⟨rfl, rfl⟩))
      go_ret
      exact ⟨_, rfl, ReadsI.nil _ _, Ext.alloc _ _⟩
    obtain ⟨N, hN⟩ : ∃ N, a.length + b.length = N + 1 := ⟨a.length + b.length - 1, by omega⟩
    have e1 := polyMul_less hna hnb hN
    rw [e1]
    obtain ⟨n, hn⟩ : ∃ n, n = a.length := ⟨_, rfl⟩
    obtain ⟨n', hn'⟩ : ∃ n', n' = b.length := ⟨_, rfl⟩
    have hat := fun i k q (hi : i < a.length) (hk : k < b.length) => mulRow_at (N := N) hba hbb hla hlb i k q hi hk
    have hprod := fun i k => mul_bd (a := 1000000) (b := 1000000) (hba i).1 (hba i).2 (hbb k).1 (hbb k).2
    rw [← hn] at h h0 hla hlena HA hN ⊢
    rw [← hn'] at h' h0' hlb hlenb HA hN ⊢
    have hz : ((n : Int) == 0) = false := by simp; omega
    have hz' : ((n' : Int) == 0) = false := by simp; omega
    obtain ⟨-, hlen1, hlen2⟩ := hlena
    obtain ⟨-, hlen1', hlen2'⟩ := hlenb
    have hmk := run_make_row' (P := Tryd.prog) 26 3 (.int .i64 0) 8 Tryd.underlying26 infoInt rfl .i64 .i64 N (by omega) (by omega)
    have ec : (n : Int) + (n' : Int) - 1 = (N : Int) := by omega
    have HM := Lib.hid (And.intro h (And.intro h' (And.intro hn (And.intro hn' (And.intro hat hprod)))))
    have HN := Lib.hid hN
    have hNb : n + n' ≤ N + 1 := by omega
    have hN60 : N ≤ 60 := by omega
    clear e1 hna hnb hba hbb h h' hn hn' hat hprod hN h0 h0'
    go_enter Tryd.func20, Tryd.ntmps20
    go_wp2_with (first | (go_at_call 60; with_reducible refine HA.out.1.mono ?_; rintro e w' ⟨rfl, rfl⟩) | (go_at_call 60; with_reducible refine HA.out.2.mono ?_; rintro e w' ⟨rfl, rfl⟩))
    clear hmk ec
    have hB0 : Own (w.alloc (.cells (madeCells #[.int .i64 0] N) 3)) w.heap.size 3 (.slice (some ⟨w.heap.size, 0, none⟩) N N) (icells (mulTo N a b 0)) := by
      have := Own.made w 3 (.int .i64 0) N (by unfold maxLen; omega)
      simpa [icells, mulTo] using this
    go_loopw [6] (fun i wr => ∃ k : Nat, k ≤ n ∧ i = .int .i64 k ∧ Own wr w.heap.size 3 (.slice (some ⟨w.heap.size, 0, none⟩) N N) (icells (mulTo N a b k)) ∧ Ext w wr) (fun i _ => n - (intOf i).toNat)
    case atStart => exact ⟨0, by omega, rfl, hB0, Ext.alloc _ _⟩
    case round =>
      clear hB0
      obtain ⟨i, hi, rfl, hown, hx⟩ := hrel
      by_cases hlt : i < n
      · have him : i < a.length := by rw [← HM.out.2.2.1]; exact hlt
        obtain ⟨x, hxx⟩ : ∃ x, x = a.getD i 0 := ⟨_, rfl⟩
        have HX := Lib.hid (And.intro hxx him)
        have hz0 : mulTo N a b i = mulRow (mulTo N a b i) x b i 0 := rfl
        rw [hz0] at hown
        clear hxx him hz0
        go_wp2
        go_loopw [7] (fun j wr => ∃ k : Nat, k ≤ n' ∧ j = .int .i64 k ∧ Own wr w.heap.size 3 (.slice (some ⟨w.heap.size, 0, none⟩) N N) (icells (mulRow (mulTo N a b i) x b i k)) ∧ Ext w wr) (fun j _ => n' - (intOf j).toNat)
        case atStart => exact ⟨0, by omega, rfl, hown, hx⟩
        case round =>
          clear hown hx
          obtain ⟨k, hk, rfl, hown, hx⟩ := hrel
          by_cases hltk : k < n'
          · have hkm : k < b.length := by rw [← HM.out.2.2.2.1]; exact hltk
            obtain ⟨bk, o, rfl, hcell0⟩ := (HM.out.1.ext hx).at i HX.out.2
            obtain ⟨bk', o', rfl, hcell⟩ := (HM.out.2.1.ext hx).at k hkm
            rw [← HX.out.1] at hcell0
            obtain ⟨q, hq⟩ : ∃ q, q = i + k := ⟨_, rfl⟩
            have ek : (i : Int) + (k : Int) = (q : Int) := by omega
            have hqN : q < N := by omega
            have hp := HM.out.2.2.2.2.2 i k
            have hs := HM.out.2.2.2.2.1 i k q HX.out.2 hkm
            have hl : (mulRow (mulTo N a b i) x b i k).length = N := by rw [mulRow_length, mulTo_length]
            have hc := hown.int_at q (by rw [hl]; omega)
            have hf := hown.frozen q
            rw [← HX.out.1] at hp hs
            obtain ⟨y, hy⟩ : ∃ y, y = b.getD k 0 := ⟨_, rfl⟩
            rw [← hy] at hp hcell
            obtain ⟨s, hss⟩ : ∃ s, s = (mulRow (mulTo N a b i) x b i k).getD q 0 := ⟨_, rfl⟩
            rw [← hss] at hs hc
            have e : (mulRow (mulTo N a b i) x b i k).set q (s + x * y) = mulRow (mulTo N a b i) x b i (k + 1) := by
              rw [hss, hy, hq]; rfl
            obtain ⟨hp1, hp2⟩ := hp
            obtain ⟨hs1, hs2⟩ := hs
            have hb1 : -9223372036854775808 ≤ s + x * y := by omega
            have hb2 : s + x * y ≤ 9223372036854775807 := by omega
            have HE := Lib.hid e
            clear e hl hy hss hq hf
            go_wp2
            refine wp_region_tail (by kernel_rfl) 21 (.known ?hx5_5_v0 :: .known ?hx5_5_v1 :: .known ?hx5_5_v2 :: .known ?hx5_5_v3 :: .known ?hx5_5_v4 :: .known ?hx5_5_v5 :: .known ?hx5_5_v6 :: .known ?hx5_5_v7 :: .known ?hx5_5_v8 :: .known ?hx5_5_v9 :: .known ?hx5_5_v10 :: .known ?hx5_5_v11 :: .known ?hx5_5_v12 :: .known ?hx5_5_v13 :: .known ?hx5_5_v14 :: .known ?hx5_5_v15 :: .known ?hx5_5_v16 :: .known ?hx5_5_v17 :: .known ?hx5_5_v18 :: .known ?hx5_5_v19 :: .known ?hx5_5_v20 :: []) rfl (by decide) (by kernel_rfl) (by kernel_rfl) ?hx5_5_s ?hx5_5_p
            case hx5_5_s =>
              intro vs
              refine ⟨fun w' hxw hj => ?_, fun w' hxw hj => ?_, fun w' hxw hj => ?_, fun w' hxw hj => ?_, fun w' hxw hj => ?_, fun w' hxw hj => ?_, fun w' hxw hj => ?_, fun w' hxw hj => ?_, fun w' hxw hj => ?_, fun w' hxw hj => ?_, fun w' hxw hj => ?_, fun w' hxw hj => ?_, fun w' hxw hj => ?_, fun w' hxw hj => ?_, fun w' hxw hj => ?_, fun w' hxw hj => ?_, fun w' hxw hj => ?_, fun w' hxw hj => ?_, fun w' hxw hj => ?_, fun w' hxw hj => ?_, fun w' hxw hj => ?_, trivial⟩
              · have hcell0 := Ext.cell_some hxw hcell0
                have hcell := Ext.cell_some hxw hcell
                have hc := Ext.cell_some hxw hc
                clear hj
                go_simp
                try go_bits
                first | rfl | (rw [if_pos (by omega), if_pos (by omega)]; go_simp; rfl) | (rw [if_pos (by omega)]; go_simp; rfl) | skip
              · have hcell0 := Ext.cell_some hxw hcell0
                have hcell := Ext.cell_some hxw hcell
                have hc := Ext.cell_some hxw hc
                clear hj
                go_simp
                try go_bits
                first | rfl | (rw [if_pos (by omega), if_pos (by omega)]; go_simp; rfl) | (rw [if_pos (by omega)]; go_simp; rfl) | skip
              · have hcell0 := Ext.cell_some hxw hcell0
                have hcell := Ext.cell_some hxw hcell
                have hc := Ext.cell_some hxw hc
                clear hj
                go_simp
                try go_bits
                first | rfl | (rw [if_pos (by omega), if_pos (by omega)]; go_simp; rfl) | (rw [if_pos (by omega)]; go_simp; rfl) | skip
              · have hcell0 := Ext.cell_some hxw hcell0
                have hcell := Ext.cell_some hxw hcell
                have hc := Ext.cell_some hxw hc
                clear hj
                go_simp
                try go_bits
                first | rfl | (rw [if_pos (by omega), if_pos (by omega)]; go_simp; rfl) | (rw [if_pos (by omega)]; go_simp; rfl) | skip
              · have hcell0 := Ext.cell_some hxw hcell0
                have hcell := Ext.cell_some hxw hcell
                have hc := Ext.cell_some hxw hc
                clear hj
                go_simp
                try go_bits
                first | rfl | (rw [if_pos (by omega), if_pos (by omega)]; go_simp; rfl) | (rw [if_pos (by omega)]; go_simp; rfl) | skip
              · have hcell0 := Ext.cell_some hxw hcell0
                have hcell := Ext.cell_some hxw hcell
                have hc := Ext.cell_some hxw hc
                clear hj
                go_simp
                try go_bits
                first | rfl | (rw [if_pos (by omega), if_pos (by omega)]; go_simp; rfl) | (rw [if_pos (by omega)]; go_simp; rfl) | skip
              · have hcell0 := Ext.cell_some hxw hcell0
                have hcell := Ext.cell_some hxw hcell
                have hc := Ext.cell_some hxw hc
                clear hj
                go_simp
                try go_bits
                first | rfl | (rw [if_pos (by omega), if_pos (by omega)]; go_simp; rfl) | (rw [if_pos (by omega)]; go_simp; rfl) | skip
              · have hcell0 := Ext.cell_some hxw hcell0
                have hcell := Ext.cell_some hxw hcell
                have hc := Ext.cell_some hxw hc
                clear hj
                go_simp
                try go_bits
                first | rfl | (rw [if_pos (by omega), if_pos (by omega)]; go_simp; rfl) | (rw [if_pos (by omega)]; go_simp; rfl) | skip
              · have hcell0 := Ext.cell_some hxw hcell0
                have hcell := Ext.cell_some hxw hcell
                have hc := Ext.cell_some hxw hc
                clear hj
                go_simp
                try go_bits
                first | rfl | (rw [if_pos (by omega), if_pos (by omega)]; go_simp; rfl) | (rw [if_pos (by omega)]; go_simp; rfl) | skip
              · have hcell0 := Ext.cell_some hxw hcell0
                have hcell := Ext.cell_some hxw hcell
                have hc := Ext.cell_some hxw hc
                clear hj
                go_simp
                try go_bits
                first | rfl | (rw [if_pos (by omega), if_pos (by omega)]; go_simp; rfl) | (rw [if_pos (by omega)]; go_simp; rfl) | skip
              · have hcell0 := Ext.cell_some hxw hcell0
                have hcell := Ext.cell_some hxw hcell
                have hc := Ext.cell_some hxw hc
                clear hj
                go_simp
                try go_bits
                first | rfl | (rw [if_pos (by omega), if_pos (by omega)]; go_simp; rfl) | (rw [if_pos (by omega)]; go_simp; rfl) | skip
              · have hcell0 := Ext.cell_some hxw hcell0
                have hcell := Ext.cell_some hxw hcell
                have hc := Ext.cell_some hxw hc
                clear hj
                go_simp
                try go_bits
                first | rfl | (rw [if_pos (by omega), if_pos (by omega)]; go_simp; rfl) | (rw [if_pos (by omega)]; go_simp; rfl) | skip
              · have hcell0 := Ext.cell_some hxw hcell0
                have hcell := Ext.cell_some hxw hcell
                have hc := Ext.cell_some hxw hc
                clear hj
                go_simp
                try go_bits
                first | rfl | (rw [if_pos (by omega), if_pos (by omega)]; go_simp; rfl) | (rw [if_pos (by omega)]; go_simp; rfl) | skip
              · have hcell0 := Ext.cell_some hxw hcell0
                have hcell := Ext.cell_some hxw hcell
                have hc := Ext.cell_some hxw hc
                clear hj
                go_simp
                try go_bits
                first | rfl | (rw [if_pos (by omega), if_pos (by omega)]; go_simp; rfl) | (rw [if_pos (by omega)]; go_simp; rfl) | skip
              · have hcell0 := Ext.cell_some hxw hcell0
                have hcell := Ext.cell_some hxw hcell
                have hc := Ext.cell_some hxw hc
                clear hj
                go_simp
                try go_bits
                first | rfl | (rw [if_pos (by omega), if_pos (by omega)]; go_simp; rfl) | (rw [if_pos (by omega)]; go_simp; rfl) | skip
              · have hcell0 := Ext.cell_some hxw hcell0
                have hcell := Ext.cell_some hxw hcell
                have hc := Ext.cell_some hxw hc
                clear hj
                go_simp
                try go_bits
                first | rfl | (rw [if_pos (by omega), if_pos (by omega)]; go_simp; rfl) | (rw [if_pos (by omega)]; go_simp; rfl) | skip
              · have hcell0 := Ext.cell_some hxw hcell0
                have hcell := Ext.cell_some hxw hcell
                have hc := Ext.cell_some hxw hc
                clear hj
                go_simp
                try go_bits
                first | rfl | (rw [if_pos (by omega), if_pos (by omega)]; go_simp; rfl) | (rw [if_pos (by omega)]; go_simp; rfl) | skip
              · have hcell0 := Ext.cell_some hxw hcell0
                have hcell := Ext.cell_some hxw hcell
                have hc := Ext.cell_some hxw hc
                clear hj
                go_simp
                try go_bits
                first | rfl | (rw [if_pos (by omega), if_pos (by omega)]; go_simp; rfl) | (rw [if_pos (by omega)]; go_simp; rfl) | skip
              · have hcell0 := Ext.cell_some hxw hcell0
                have hcell := Ext.cell_some hxw hcell
                have hc := Ext.cell_some hxw hc
                clear hj
                go_simp
                try go_bits
                first | rfl | (rw [if_pos (by omega), if_pos (by omega)]; go_simp; rfl) | (rw [if_pos (by omega)]; go_simp; rfl) | skip
              · have hcell0 := Ext.cell_some hxw hcell0
                have hcell := Ext.cell_some hxw hcell
                have hc := Ext.cell_some hxw hc
                clear hj
                go_simp
                try go_bits
                first | rfl | (rw [if_pos (by omega), if_pos (by omega)]; go_simp; rfl) | (rw [if_pos (by omega)]; go_simp; rfl) | skip
              · have hcell0 := Ext.cell_some hxw hcell0
                have hcell := Ext.cell_some hxw hcell
                have hc := Ext.cell_some hxw hc
                clear hj
                go_simp
                try go_bits
                first | rfl | (rw [if_pos (by omega), if_pos (by omega)]; go_simp; rfl) | (rw [if_pos (by omega)]; go_simp; rfl) | skip
            case' hx5_5_p =>
              intro vs w5 hx5 hk
              clear hk
              replace hcell0 := Ext.cell_some hx5 hcell0
              replace hcell := Ext.cell_some hx5 hcell
              replace hc := Ext.cell_some hx5 hc
              replace hown := Own.ext hown hx5
              replace hx := Ext.trans hx hx5
              go_simp
              clear hx5
              have hf := hown.frozen q
              have hst := hown.store q (.int .i64 (s + x * y))
              rw [icells_set, HE.out] at hst
              have hx' := hx.setCell (p := ⟨w.heap.size, q, none⟩) (Nat.le_refl _) (.int .i64 (s + x * y))
              have HS := Lib.hid (And.intro hst hx')
              clear hst hx' hown hx
              go_wp2
              go_roundw
              case rel => exact ⟨k + 1, by omega, by go_num, HS.out.1, HS.out.2⟩
              case measure => simp [intOf]; omega
          · have hkn : k = n' := by omega
            subst hkn
            go_wp2
            go_roundw
            case rel => exact ⟨i + 1, by omega, by go_num, by rw [mulTo, ← HX.out.1, ← HM.out.2.2.2.1]; exact hown, hx⟩
            case measure => simp [intOf]; omega
      · have hin : i = n := by omega
        subst hin
        have hl : (mulTo N a b i).length = N := mulTo_length _ _ _ _
        have ht := spec_l7Cut_any w.heap.size w.heap.size N (mulTo N a b i) wr (by rw [hl]; exact hown) (by rw [hl]; omega)
        rw [hl] at ht
        have HT := Lib.hid ht
        clear ht hl hown
        go_wp2_with fail
        with_reducible refine HT.out.mono ?_
        rintro e w' ⟨u, rfl, hr, hy⟩
        go_wp2
        go_ret
        exact ⟨_, rfl, hr, hx.trans hy⟩
end Go.Proofs.YtdngkfedkgiioaaDoor

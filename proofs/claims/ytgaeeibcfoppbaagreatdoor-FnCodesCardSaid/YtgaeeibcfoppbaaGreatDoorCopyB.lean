/- Contract: the reference's CopyCode. -/
import Derived.Test.YtgaeeibcfoppbaaGreatDoorPkC
import Derived.Test.YtgaeeibcfoppbaaGreatDoorCopyA
namespace Go.Proofs.YtgaeeibcfoppbaaGreatDoor
open Go.RowKit Go.Cm

set_option maxHeartbeats 1000000 in
theorem spec_CopyCode_no (L W a : Int) (w : World) (h : copyOk L W a = false) :
    Calls Tryz.prog 19 #[.int .i64 L, .int .i64 W, .int .i64 a] w fun e w' => e = .returned (.tuple #[.agg #[.int .i64 0, .int .i64 0, .string ⟨#[]⟩], .bool false]) ∧ Ext w w' := by
  by_cases h1 : 2 ≤ L ∧ L ≤ 3
  · obtain ⟨hl2, hl3⟩ := h1
    by_cases h2 : 1 ≤ W ∧ W ≤ 4
    · obtain ⟨hw1, hw4⟩ := h2
      by_cases h4 : pw L W ≤ 27
      · have t4 : decide (27 < pw L W) = false := by simpa using h4
        have h5 : a < 0 ∨ W - 1 < a := by
          have : L = 2 ∨ L = 3 := by omega
          simp [copyOk, wideOk, this, hw1, hw4, h4] at h
          omega
        have H5 := Lib.hid h5
        clear h h5
        go_enter Tryz.func19, Tryz.ntmps19
        go_wp2_with (first | (go_at_call 30; refine (spec_l11Power_any _ _ _ (by omega) (by omega) (by omega) (by omega)).mono ?_; rintro e w' ⟨rfl, rfl⟩) | (go_at_call 47; with_reducible refine (spec_l1In_no a 0 (W - 1) _ H5.out).mono ?_; rintro e w' ⟨rfl, rfl⟩) | (go_at_call 47; refine (spec_l1In_yes _ _ _ _ (by omega) (by omega)).mono ?_; rintro e w' ⟨rfl, rfl⟩))
        refine bodyPost_ret (v := .tuple #[.agg #[.int .i64 0, .int .i64 0, .string ⟨#[]⟩], .bool false]) (by simp [results, Tryz.results19, go_sem]) rfl ⟨rfl, Ext.alloc _ _⟩
      · have t4 : decide (27 < pw L W) = true := by simpa using h4
        clear h
        go_enter Tryz.func19, Tryz.ntmps19
        go_wp2_with (first | (go_at_call 30; refine (spec_l11Power_any _ _ _ (by omega) (by omega) (by omega) (by omega)).mono ?_; rintro e w' ⟨rfl, rfl⟩) | (go_at_call 47; refine (spec_l1In_yes _ _ _ _ (by omega) (by omega)).mono ?_; rintro e w' ⟨rfl, rfl⟩))
        refine bodyPost_ret (v := .tuple #[.agg #[.int .i64 0, .int .i64 0, .string ⟨#[]⟩], .bool false]) (by simp [results, Tryz.results19, go_sem]) rfl ⟨rfl, Ext.alloc _ _⟩
    · have H2 := Lib.hid h2
      clear h h2
      go_enter Tryz.func19, Tryz.ntmps19
      go_wp2_with (first | (go_at_call 47; with_reducible refine (spec_l1In_no W 1 4 _ (by have := H2.out; omega)).mono ?_; rintro e w' ⟨rfl, rfl⟩) | (go_at_call 47; refine (spec_l1In_yes _ _ _ _ (by omega) (by omega)).mono ?_; rintro e w' ⟨rfl, rfl⟩))
      refine bodyPost_ret (v := .tuple #[.agg #[.int .i64 0, .int .i64 0, .string ⟨#[]⟩], .bool false]) (by simp [results, Tryz.results19, go_sem]) rfl ⟨rfl, Ext.alloc _ _⟩
  · have H1 := Lib.hid h1
    clear h h1
    go_enter Tryz.func19, Tryz.ntmps19
    go_wp2_with (go_at_call 47; refine (spec_l1In_no L 2 3 _ (by have := H1.out; omega)).mono ?_; rintro e w' ⟨rfl, rfl⟩)
    refine bodyPost_ret (v := .tuple #[.agg #[.int .i64 0, .int .i64 0, .string ⟨#[]⟩], .bool false]) (by simp [results, Tryz.results19, go_sem]) rfl ⟨rfl, Ext.alloc _ _⟩

set_option maxRecDepth 100000 in
set_option maxHeartbeats 1000000 in
theorem spec_CopyCode_yes (K n a : Nat) (w : World) (h : copyOk K n a = true) :
    Calls Tryz.prog 19 #[.int .i64 K, .int .i64 n, .int .i64 a] w fun e w' => e = .returned (.tuple #[.agg #[.int .i64 K, .int .i64 n, .string (mkS ((wordsL K n).map (letAt a)))], .bool true]) ∧ Ext w w' := by
  have hh : wideOk K n = true ∧ a < n := by simpa [copyOk] using h
  obtain ⟨hwide, han⟩ := hh
  obtain ⟨hL, h1, h4, h27⟩ := wideOk_yes hwide
  have hK2 : 2 ≤ (K : Int) := by omega
  have hK3 : (K : Int) ≤ 3 := by omega
  have t4 : decide (27 < pw (K : Int) n) = false := by simpa using h27
  have hN27 : K ^ n ≤ 27 := by rw [pw_nat] at h27; omega
  have hwl : (scells (wordsL K n)).length = K ^ n := by simp [scells, wordsL]
  have hNp : 0 < K ^ n := Nat.pow_pos (by omega)
  obtain ⟨N, hN⟩ : ∃ N, N = K ^ n := ⟨_, rfl⟩
  rw [← hN] at hwl hNp hN27
  have HN := Lib.hid hN
  have HWL := Lib.hid hwl
  clear hN hwl h hwide hL h27
  go_enter Tryz.func19, Tryz.ntmps19
  go_wp2_with (first | (go_at_call 30; refine (spec_l11Power_any _ _ _ (by omega) (by omega) (by omega) (by omega)).mono ?_; rintro e w' ⟨rfl, rfl⟩) | (go_at_call 47; refine (spec_l1In_yes _ _ _ _ (by omega) (by omega)).mono ?_; rintro e w' ⟨rfl, rfl⟩))
  refine (spec_l2All_any K n _ (by omega) (by omega) (by omega)).mono ?_
  rintro e w2 ⟨v9, rfl, hw, hx⟩
  have hsh := hw.shape
  rw [HWL.out] at hsh
  rcases hsh with ⟨_, hnil⟩ | ⟨g, cap, rfl, hg, _, _, _⟩
  · exfalso
    have := HWL.out
    rw [hnil] at this
    simp at this
    omega
  have hg' : w.heap.size + 1 < g := by simp at hg; omega
  clear hg
  have hxw := ((Ext.alloc _ _).trans (Ext.alloc _ _)).trans hx
  have r0 : w2.cell? ⟨w.heap.size, 0, none⟩ = some (.int .i64 0) := hx.cell_some (by simp)
  have r1 : w2.cell? ⟨w.heap.size, 1, none⟩ = some (.int .i64 0) := hx.cell_some (by simp)
  have r2 : w2.cell? ⟨w.heap.size, 2, none⟩ = some (.string ⟨#[]⟩) := hx.cell_some (by simp)
  have s0 : w2.frozen? ⟨w.heap.size, 0, none⟩ = false := (Below.frozen (p := ⟨w.heap.size, 0, none⟩) hx (by simp; omega)).trans (by simp)
  have s1 : w2.frozen? ⟨w.heap.size, 1, none⟩ = false := (Below.frozen (p := ⟨w.heap.size, 1, none⟩) hx (by simp; omega)).trans (by simp)
  have s2 : w2.frozen? ⟨w.heap.size, 2, none⟩ = false := (Below.frozen (p := ⟨w.heap.size, 2, none⟩) hx (by simp; omega)).trans (by simp)
  have c0 : w2.cell? ⟨w.heap.size + 1, 0, none⟩ = some (.int .i64 K) := hx.cell_some (by simp)
  have c1 : w2.cell? ⟨w.heap.size + 1, 1, none⟩ = some (.int .i64 n) := hx.cell_some (by simp)
  have c2 : w2.cell? ⟨w.heap.size + 1, 2, none⟩ = some (.string (mkS (((wordsL K n).take 0).map (letAt a)))) := hx.cell_some (by simp [mkS])
  have f2 : w2.frozen? ⟨w.heap.size + 1, 2, none⟩ = false := (Below.frozen (p := ⟨w.heap.size + 1, 2, none⟩) hx (by simp)).trans (by simp)
  have hsz : w.heap.size + 1 < w2.heap.size := by have := hx.size; simp at this; omega
  clear hx
  go_wp2
  go_loopw [10] (fun i wr => ∃ k : Nat, k ≤ N ∧ i = .int .i64 k ∧ w2.grownBy wr (some (w.heap.size + 1)) ∧ Ext w wr ∧ wr.cell? ⟨w.heap.size + 1, 0, none⟩ = some (.int .i64 K) ∧ wr.cell? ⟨w.heap.size + 1, 1, none⟩ = some (.int .i64 n) ∧
      wr.cell? ⟨w.heap.size + 1, 2, none⟩ = some (.string (mkS (((wordsL K n).take k).map (letAt a)))) ∧ wr.frozen? ⟨w.heap.size + 1, 2, none⟩ = false) (fun i _ => N - (intOf i).toNat)
  case atStart => exact ⟨0, by omega, rfl, GB.refl _ _, hxw, c0, c1, c2, f2⟩
  case round =>
    clear c0 c1 c2 f2
    obtain ⟨k, hk, rfl, hgb, hx, c0, c1, c2, f2⟩ := hrel
    by_cases hlt : k < N
    · have hlw : k < (wordsL K n).length := by have := HWL.out; simp [scells] at this; omega
      have hwc : wr.cell? ⟨g, k, none⟩ = some (.string (mkS (wordsL K n)[k])) := by
        have := (GB.own hgb hw (by intro j hj; simp [Value.ownBlock] at hj ⊢; omega)).cell k (by rw [HWL.out]; exact hlt)
        simpa [scells] using this
      obtain ⟨u, hu⟩ : ∃ u, u = (wordsL K n)[k] := ⟨_, rfl⟩
      rw [← hu] at hwc
      have hul : u.length = n := by rw [hu]; simp only [wordsL, List.getElem_map]; rw [wordL_length]
      have htk : (wordsL K n).take (k + 1) = (wordsL K n).take k ++ [u] := by rw [hu]; exact List.take_succ_eq_append_getElem hlw
      have hal : a < u.length := by omega
      have hsl : (mkS u).extract a (a + 1) = mkS [letAt a u] := mkS_slice u a hal
      obtain ⟨t, ht⟩ : ∃ t, t = ((wordsL K n).take k).map (letAt a) := ⟨_, rfl⟩
      rw [← ht] at c2
      have hcat := mkS_append t [letAt a u]
      have hsz1 : (mkS t).size + (mkS [letAt a u]).size ≤ 28 := by rw [mkS_size, mkS_size, ht]; simp; omega
      have hus : a + 1 ≤ (mkS u).size := by rw [mkS_size]; omega
      have HT := Lib.hid (And.intro htk ht)
      clear hu ht htk hlw hul
      go_wp2
      refine wp_region_tail (by kernel_rfl) 12 [.known (.pointer (some ⟨w.heap.size + 1, 2, none⟩)), .known (.string (mkS t)), .known (.slice (some ⟨g, 0, none⟩) N cap), .known (.int .i64 k), .known (.pointer (some ⟨g, k, none⟩)), .known (.string (mkS u)), .known (.int .i64 a), .known (.int .i64 a), .known (.int .i64 (a + 1)), .known (.string (mkS [letAt a u])), .known (.string (mkS (t ++ [letAt a u]))), .known (.pointer (some ⟨w.heap.size + 1, 2, none⟩))] rfl (by decide) (by kernel_rfl) (by kernel_rfl) ?_ ?_
      · intro vs
        refine ⟨fun w' hx hj => ?_, fun w' hx hj => ?_, fun w' hx hj => ?_, fun w' hx hj => ?_, fun w' hx hj => ?_, fun w' hx hj => ?_, fun w' hx hj => ?_, fun w' hx hj => ?_, fun w' hx hj => ?_, fun w' hx hj => ?_, fun w' hx hj => ?_, fun w' hx hj => ?_, trivial⟩
        · clear hj
          go_simp
        · have c0 := Ext.cell_some hx c2
          clear hj
          go_simp
        · clear hj
          go_simp
        · clear hj
          go_simp
        · clear hj
          go_simp
        · have c0 := Ext.cell_some hx hwc
          clear hj
          go_simp
        · clear hj
          go_simp
        · clear hj
          go_simp
        · have e1 : IntKind.i64.wrap ((a : Int) + 1) = a + 1 := IntWalk.i64_in _ (by omega)
          clear hj
          go_simp
        · have p1 : (0 : Int) ≤ (a : Int) + 1 := by omega
          have p2 : (a : Int) + 1 ≤ (mkS u).size := by omega
          have p3 : (a : Int) ≤ a + 1 := by omega
          clear hj
          go_simp
        · have p1 : ¬ 9223372036854775807 < (mkS t).size + (mkS [letAt a u]).size := by omega
          clear hj
          go_simp
        · clear hj
          go_simp
      · intro vs w3 hx3 hk
        clear hk
        go_simp
        have hx4 := hx.trans hx3
        have hg4 := GB.ext hgb hx3
        replace f2 := (Below.frozen (p := ⟨w.heap.size + 1, 2, none⟩) hx3 (World.block_lt_of_cell? wr _ c2)).trans f2
        replace c0 := hx3.cell_some c0
        replace c1 := hx3.cell_some c1
        replace c2 := hx3.cell_some c2
        clear hx hx3 hgb hwc hsl hcat
        go_wp2
        go_roundw
        case rel => exact ⟨k + 1, by omega, by go_num, GB.setCell hg4 _ _, hx4.setCell (by simp) _, by simp [go_sem, c0], by simp [go_sem, c1], by simp [go_sem, c2, HT.out.1, HT.out.2], by simp [go_sem, f2]⟩
        case measure => simp [intOf]; omega
    · have : k = N := by omega
      subst this
      have htk : (wordsL K n).take k = wordsL K n := List.take_of_length_le (by have := HWL.out; simp [scells] at this; omega)
      rw [htk] at c2
      clear htk
      have d0 := GB.cell hgb r0 (by simp)
      have d1 := GB.cell hgb r1 (by simp)
      have d2 := GB.cell hgb r2 (by simp)
      have g0 := (GB.frozen hgb (a := ⟨w.heap.size, 0, none⟩) (by simp; omega) (by simp)).trans s0
      have g1 := (GB.frozen hgb (a := ⟨w.heap.size, 1, none⟩) (by simp; omega) (by simp)).trans s1
      have g2 := (GB.frozen hgb (a := ⟨w.heap.size, 2, none⟩) (by simp; omega) (by simp)).trans s2
      clear hgb r0 r1 r2 s0 s1 s2
      go_wp2
      refine bodyPost_ret (v := .tuple #[.agg #[.int .i64 K, .int .i64 n, .string (mkS ((wordsL K n).map (letAt a)))], .bool true]) ?_ rfl ⟨rfl, ((hx.setCell (Nat.le_refl _) _).setCell (Nat.le_refl _) _).setCell (Nat.le_refl _) _⟩
      simp [results, Tryz.results19, go_sem, d0, d1, d2]
end Go.Proofs.YtgaeeibcfoppbaaGreatDoor

/- Contracts: the characteristic polynomial, by the program. -/
import Derived.Test.YtdngkfedkgiioaaDoorCharA
import Derived.Test.YtdngkfedkgiioaaDoorPolyC
namespace Go.Proofs.YtdngkfedkgiioaaDoor
open Go.RowKit Go.Mx

set_option maxRecDepth 100000 in
set_option maxHeartbeats 4000000 in
theorem impl_charPoly_any (v : Value) (m : List (List Int)) (n : Nat) (w : World) (h : ReadsRows w v m) (hm : IsS n m) :
    Calls Tryd.prog 47 #[v] w fun e w' => e = .returned (.slice (some ⟨w.heap.size, 0, none⟩) (n + 1) (n + 1)) ∧ Own w' w.heap.size 3 (.slice (some ⟨w.heap.size, 0, none⟩) (n + 1) (n + 1)) (icells (cpL m)) ∧ Ext w w' := by
  obtain ⟨pa, ca, rfl⟩ := h.slice
  obtain ⟨-, hla1, hla2⟩ := h.len
  have hn4 := hm.four
  have hpn := hm.mat.pos
  have hmbd : ∀ i j, -10000 ≤ (m.getD i []).getD j 0 ∧ (m.getD i []).getD j 0 ≤ 10000 := fun i j => by have := hm.nine i j; unfold at2 at this; omega
  have hdsb := fun K c (hK : K ≤ 4) => detSum_bd hmbd K hK (chL m.length K) (fun l hl => by obtain ⟨x, _, h2⟩ := chL_mem hl; exact h2) c
  have hdb := fun l K hl hK => minor_bd hmbd l K hl hK
  have hsq : ∀ l : List Int, Sq l.length 10000 (partL m l) := fun l => partL_sq (by omega) l hmbd
  have hat := cpTo_at m
  have hset := cpTo_set m
  have hnext := cpTo_next m
  have hall := cpTo_all m 0
  have hlen := cpTo_length m
  have hz0 := cpTo_zero m
  rw [hm.mat.len] at h hla1 hdsb hat hset hnext hall hlen hz0 ⊢
  have hmk := run_make_row' (P := Tryd.prog) 26 3 (.int .i64 0) 8 Tryd.underlying26 infoInt rfl .i64 .i64 (n + 1) (by omega) (by omega)
  have ec : ((n + 1 : Nat) : Int) = (n : Int) + 1 := by omega
  rw [ec] at hmk
  have hB0 : Own (w.alloc (.cells (madeCells #[.int .i64 0] (n + 1)) 3)) w.heap.size 3 (.slice (some ⟨w.heap.size, 0, none⟩) (n + 1) (n + 1)) (icells (cpTo m 0 0)) := by
    have := Own.made w 3 (.int .i64 0) (n + 1) (by unfold maxLen; omega)
    rw [hz0, icells_replicate]; exact this
  have HM := Lib.hid (And.intro h (And.intro hm (And.intro hdsb (And.intro hdb (And.intro hsq (And.intro hall hlen))))))
  have HC := Lib.hid (And.intro hat (And.intro hset hnext))
  have HB := Lib.hid hB0
  clear h hm hdsb hdb hsq hall hlen hat hset hnext hz0 hmbd ec hB0
  go_enter Tryd.func47, Tryd.ntmps47
  go_wp2
  clear hmk
  go_loopw [5, 6] (fun z q wr => ∃ K : Nat, K ≤ n + 1 ∧ q = .int .i64 K ∧ z = .int .i64 (sgn K) ∧ Own wr w.heap.size 3 (.slice (some ⟨w.heap.size, 0, none⟩) (n + 1) (n + 1)) (icells (cpTo m K 0)) ∧ Ext w wr) (fun _ q _ => n + 1 - (intOf q).toNat)
  case atStart => exact ⟨0, by omega, rfl, rfl, HB.out, Ext.alloc _ _⟩
  case round =>
    clear HB
    obtain ⟨K, hK, rfl, rfl, hown, hx⟩ := hrel
    by_cases hlt : K ≤ n
    · have hch := impl_choices_any n K wr hn4
      obtain ⟨g, hg⟩ : ∃ g, g = sgn K := ⟨_, rfl⟩
      have hsg := sgn_succ K
      obtain ⟨hg1, hg2⟩ : -1 ≤ sgn K ∧ sgn K ≤ 1 := by rcases sgn_or K with h | h <;> omega
      have hgor := sgn_or K
      have hat := fun c => HC.out.1 K c hlt
      have hset := fun c (hc : c < (chL n K).length) => HC.out.2.1 K c hlt hc
      rw [← hg] at hsg hg1 hg2 hgor hat hset ⊢
      have hlsz := hown.lt
      have hcl : (chL n K).length ≤ 16 := by
        have h1 := chTo_length n K (2 ^ n)
        have h2 := pow_le16 hn4
        unfold chL; omega
      have HK := Lib.hid (And.intro hch (And.intro hsg (And.intro hown (And.intro hlsz (And.intro hat (And.intro hset hgor))))))
      clear hch hg hsg hown hlsz hat hset hgor
      obtain ⟨wm, rfl⟩ : ∃ wm : World, wm = wr := ⟨_, rfl⟩
      go_wp2_with fail
      with_reducible refine HK.out.1.mono ?_
      rintro e w1 ⟨u, rfl, hres, hx1⟩
      have hres' := hres
      have hrd := hres.reads
      obtain ⟨pc, cc, rfl⟩ := hrd.slice
      obtain ⟨-, hlc1, hlc2⟩ := hrd.len
      obtain ⟨C, hC⟩ : ∃ C, C = (chL n K).length := ⟨_, rfl⟩
      rw [← hC] at hlc1 hcl ⊢
      have hown1 := HK.out.2.2.1.ext hx1
      have HR := Lib.hid (And.intro hres (And.intro hC (And.intro hown1 hx1)))
      clear hres hres' hrd hC hown1
      go_wp2
      go_loopw [23] (fun q wr => ∃ c : Nat, c ≤ C ∧ q = .int .i64 c ∧ Own wr w.heap.size 3 (.slice (some ⟨w.heap.size, 0, none⟩) (n + 1) (n + 1)) (icells (cpTo m K c)) ∧ Ext w wr ∧ w1.grownBy wr (some w.heap.size)) (fun q _ => C - (intOf q).toNat)
      case atStart => exact ⟨0, by omega, rfl, HR.out.2.2.1, Ext.trans hx HR.out.2.2.2, GB.refl _ _⟩
      case round =>
        clear hx
        obtain ⟨c, hc, rfl, hown, hx, hgb⟩ := hrel
        by_cases hltc : c < C
        · have hcl2 : c < (chL n K).length := by rw [← HR.out.2.1]; exact hltc
          obtain ⟨x, hxb, hlk⟩ := chL_at hcl2
          have hrdw : ReadsRows wr (.slice pc C cc) (chL n K) := by
            have hlsz := HK.out.2.2.2.1
            rcases HR.out.1 with ⟨hn, he⟩ | ⟨g5, cap5, gs5, cs5, hv5, ht5⟩
            · exact absurd hcl2 (by rw [he]; simp)
            · have hlt5 := ht5.lt
              have hgs5 := ht5.rowlt
              have ht6 := ht5.gb hgb (by intro e; injection e with e; omega) (fun q hq e => by injection e with e; have := hgs5 q hq; omega)
              have hr6 := ht6.reads rfl
              rw [← hv5] at hr6
              rw [← HR.out.2.1] at hr6
              exact hr6
          obtain ⟨bk, o, a', c', rfl, hcell, hrow⟩ := hrdw.at c hcl2
          rw [hxb] at hcell hrow
          have hlc := hrow.len.2.1
          rw [hlk] at hcell hrow hlc
          have hset := HK.out.2.2.2.2.2.1 c hcl2
          rw [hxb] at hset
          have hat := HK.out.2.2.2.2.1 c
          obtain ⟨hs1, hs2⟩ := HM.out.2.2.1 K c (by omega)
          obtain ⟨hd1, hd2⟩ := HM.out.2.2.2.1 (bitsL x n) K hlk (by omega)
          have hpk := fun w' (hw : Ext wr w') => impl_picked_any _ _ m (bitsL x n) n w' ((HM.out.1.ext hx).ext hw) (hrow.ext hw) (by rw [hlk]; omega) HM.out.2.1.mat.len HM.out.2.1.mat.row (fun j hj => bitsL_bd x n j hj)
          have hsq := HM.out.2.2.2.2.1 (bitsL x n)
          rw [hlk] at hsq
          have hde := fun u w' (hu : ReadsRows w' u (partL m (bitsL x n))) => impl_determinant_any K _ u w' hsq (by omega) hu
          obtain ⟨r, hr⟩ : ∃ r, r = n - K := ⟨_, rfl⟩
          have hri : (n : Int) - (K : Int) = (r : Int) := by omega
          have hrn : r ≤ n := by omega
          have hrn1 : r < n + 1 := by omega
          rw [← hr] at hat hset
          have hco := hown.int_at r (by rw [HM.out.2.2.2.2.2.2]; omega)
          rw [hat] at hco
          obtain ⟨D, hD⟩ : ∃ D, D = detL K (partL m (bitsL x n)) := ⟨_, rfl⟩
          obtain ⟨s0, hs0⟩ : ∃ s0, s0 = detSum m K (chL n K) c := ⟨_, rfl⟩
          rw [← hD] at hd1 hd2 hde hset
          rw [← hs0] at hs1 hs2 hset hco
          have hgor := HK.out.2.2.2.2.2.2
          have hgD : -240000000000000000 ≤ g * D ∧ g * D ≤ 240000000000000000 := by rcases hgor with h | h <;> rw [h] <;> omega
          have hgs : -3840000000000000000 ≤ g * s0 ∧ g * s0 ≤ 3840000000000000000 := by
            have h16 : (c : Int) ≤ 16 := by omega
            rcases hgor with h | h <;> rw [h] <;> omega
          obtain ⟨s, hs⟩ : ∃ s, s = g * s0 := ⟨_, rfl⟩
          rw [← hs] at hgs hset hco
          obtain ⟨hgD1, hgD2⟩ := hgD
          obtain ⟨hgs1, hgs2⟩ := hgs
          have hb1 : -9223372036854775808 ≤ s + g * D := by omega
          have hb2 : s + g * D ≤ 9223372036854775807 := by omega
          have HW := Lib.hid (And.intro hown (And.intro hgb (And.intro hpk (And.intro hde hset))))
          clear hown hgb hpk hde hset hrdw hrow hs hs0 hD hat hsq hgor hs1 hs2 hcl2 hr hxb hlk
          obtain ⟨wq, rfl⟩ : ∃ wq : World, wq = wr := ⟨_, rfl⟩
          go_wp2
          refine wp_region_tail (by kernel_rfl) 14 (.known ?hx8_7_v0 :: .known ?hx8_7_v1 :: .known ?hx8_7_v2 :: .known ?hx8_7_v3 :: .known ?hx8_7_v4 :: .known ?hx8_7_v5 :: .known ?hx8_7_v6 :: .known ?hx8_7_v7 :: .known ?hx8_7_v8 :: .such (RowsJ (partL m (bitsL x n))) (RowsJ.ok _) :: .known (.int .i64 D) :: .known ?hx8_7_v11 :: .known ?hx8_7_v12 :: .known ?hx8_7_v13 :: []) rfl (by decide) (by kernel_rfl) (by kernel_rfl) ?hx8_7_s ?hx8_7_p
          case hx8_7_s =>
            intro vs
            refine ⟨fun w' hxw hj => ?_, fun w' hxw hj => ?_, fun w' hxw hj => ?_, fun w' hxw hj => ?_, fun w' hxw hj => ?_, fun w' hxw hj => ?_, fun w' hxw hj => ?_, fun w' hxw hj => ?_, fun w' hxw hj => ?_, fun w' hxw hj => ?_, fun w' hxw hj => ?_, fun w' hxw hj => ?_, fun w' hxw hj => ?_, fun w' hxw hj => ?_, trivial⟩
            · have hco := Ext.cell_some hxw hco
              clear hj
              go_simp
              try go_bits
              first | rfl | (rw [if_pos (by omega), if_pos (by omega)]; go_simp; rfl) | (rw [if_pos (by omega)]; go_simp; rfl) | skip
            · have hco := Ext.cell_some hxw hco
              clear hj
              go_simp
              try go_bits
              first | rfl | (rw [if_pos (by omega), if_pos (by omega)]; go_simp; rfl) | (rw [if_pos (by omega)]; go_simp; rfl) | skip
            · have hco := Ext.cell_some hxw hco
              clear hj
              go_simp
              try go_bits
              first | rfl | (rw [if_pos (by omega), if_pos (by omega)]; go_simp; rfl) | (rw [if_pos (by omega)]; go_simp; rfl) | skip
            · have hco := Ext.cell_some hxw hco
              clear hj
              go_simp
              try go_bits
              first | rfl | (rw [if_pos (by omega), if_pos (by omega)]; go_simp; rfl) | (rw [if_pos (by omega)]; go_simp; rfl) | skip
            · have hco := Ext.cell_some hxw hco
              clear hj
              go_simp
              try go_bits
              first | rfl | (rw [if_pos (by omega), if_pos (by omega)]; go_simp; rfl) | (rw [if_pos (by omega)]; go_simp; rfl) | skip
            · have hco := Ext.cell_some hxw hco
              clear hj
              go_simp
              try go_bits
              first | rfl | (rw [if_pos (by omega), if_pos (by omega)]; go_simp; rfl) | (rw [if_pos (by omega)]; go_simp; rfl) | skip
            · have hco := Ext.cell_some hxw hco
              clear hj
              go_simp
              try go_bits
              first | rfl | (rw [if_pos (by omega), if_pos (by omega)]; go_simp; rfl) | (rw [if_pos (by omega)]; go_simp; rfl) | skip
            · have hco := Ext.cell_some hxw hco
              clear hj
              go_simp
              try go_bits
              first | rfl | (rw [if_pos (by omega), if_pos (by omega)]; go_simp; rfl) | (rw [if_pos (by omega)]; go_simp; rfl) | skip
            · have hco := Ext.cell_some hxw hco
              clear hj
              go_simp
              try go_bits
              first | rfl | (rw [if_pos (by omega), if_pos (by omega)]; go_simp; rfl) | (rw [if_pos (by omega)]; go_simp; rfl) | skip
            · have hco := Ext.cell_some hxw hco
              clear hj
              go_simp
              try go_bits
              exact (HW.out.2.2.1 _ hxw).mono fun _ _ ⟨u, h1, h2, h3⟩ => ⟨u, h1, h3, h2.reads⟩
            · have hco := Ext.cell_some hxw hco
              have h9 := hj 9 (by kernel_rfl)
              clear hj
              go_simp
              try go_bits
              exact (HW.out.2.2.2.1 _ _ h9).mono fun _ _ ⟨h1, h2⟩ => ⟨h1, h2⟩
            · have hco := Ext.cell_some hxw hco
              clear hj
              go_simp
              try go_bits
              first | rfl | (rw [if_pos (by omega), if_pos (by omega)]; go_simp; rfl) | (rw [if_pos (by omega)]; go_simp; rfl) | skip
            · have hco := Ext.cell_some hxw hco
              clear hj
              go_simp
              try go_bits
              first | rfl | (rw [if_pos (by omega), if_pos (by omega)]; go_simp; rfl) | (rw [if_pos (by omega)]; go_simp; rfl) | skip
            · have hco := Ext.cell_some hxw hco
              clear hj
              go_simp
              try go_bits
              first | rfl | (rw [if_pos (by omega), if_pos (by omega)]; go_simp; rfl) | (rw [if_pos (by omega)]; go_simp; rfl) | skip
          case' hx8_7_p =>
            intro vs w8 hx8 hk
            have k9 : (RowsJ (partL m (bitsL x n))) (vs 9) w8 := hk 9 _ rfl
            clear hk
            replace hco := Ext.cell_some hx8 hco
            replace hx := Ext.trans hx hx8
            go_simp
            have ho8 := HW.out.1.ext hx8
            have hf8 := ho8.frozen r
            have hs8 := ho8.store r (.int .i64 (s + g * D))
            rw [icells_set, HW.out.2.2.2.2] at hs8
            have hx9 := hx.setCell (p := ⟨w.heap.size, r, none⟩) (Nat.le_refl _) (.int .i64 (s + g * D))
            have hg9 := GB.setCell (GB.ext HW.out.2.1 hx8) r (.int .i64 (s + g * D))
            have H8 := Lib.hid (And.intro hs8 (And.intro hx9 hg9))
            clear ho8 hs8 hx9 hg9 hx8 hx k9
            go_wp2
            go_roundw
            case rel => exact ⟨c + 1, by omega, by go_num, H8.out.1, H8.out.2.1, H8.out.2.2⟩
            case measure => simp [intOf]; omega
        · have hcC : c = C := by omega
          rw [hcC, HR.out.2.1, HC.out.2.2 K] at hown
          have HO := Lib.hid hown
          clear hown hgb
          subst hcC
          go_wp2
          go_roundw
          case rel => exact ⟨K + 1, by omega, by go_num, by rw [HK.out.2.1], HO.out, hx⟩
          case measure => simp [intOf]; omega
    · have hKn : K = n + 1 := by omega
      subst hKn
      rw [HM.out.2.2.2.2.2.1] at hown
      have HO := Lib.hid hown
      clear hown
      go_wp2
      go_ret
      exact ⟨rfl, HO.out, hx⟩
end Go.Proofs.YtdngkfedkgiioaaDoor

/- Contracts: the states of a shift and its language, by the program. -/
import Derived.Test.YtfiembmfkokllaaGreatShC
import Derived.Test.YtfiembmfkokllaaGreatLiveA
namespace Go.Cm
/-- the first q places that follow -/
def rowS (F ps : List (List UInt8)) (u : List UInt8) (q : Nat) : List Nat := (List.range q).filter fun k => adjL F u (ps.getD k [])
theorem rowS_yes {F ps : List (List UInt8)} {u : List UInt8} {q : Nat} (h : adjL F u (ps.getD q []) = true) : rowS F ps u (q + 1) = rowS F ps u q ++ [q] := by
  unfold rowS
  rw [List.range_succ, List.filter_append, List.filter_cons_of_pos (by exact h)]
  rfl
theorem rowS_no {F ps : List (List UInt8)} {u : List UInt8} {q : Nat} (h : adjL F u (ps.getD q []) = false) : rowS F ps u (q + 1) = rowS F ps u q := by
  unfold rowS
  rw [List.range_succ, List.filter_append, List.filter_cons_of_neg (by rw [h]; simp)]
  exact List.append_nil _
theorem rowS_length (F ps : List (List UInt8)) (u : List UInt8) (q : Nat) : (rowS F ps u q).length ≤ q := by
  have := List.length_filter_le (fun k => adjL F u (ps.getD k [])) (List.range q)
  rw [List.length_range] at this
  exact this
theorem nextL_take (F ps : List (List UInt8)) (p : Nat) (h : p < ps.length) : (nextL F ps).take (p + 1) = (nextL F ps).take p ++ [rowS F ps (ps.getD p []) ps.length] := by
  rw [List.take_succ_eq_append_getElem (by rw [nextL_length]; exact h)]
  simp [nextL, rowS, List.getD_eq_getElem?_getD, List.getElem?_eq_getElem h]
theorem avoidsN_length (K : Nat) (F : List (List UInt8)) (n : Nat) : (avoidsN K F n).length ≤ K ^ n := by
  unfold avoidsN
  refine Nat.le_trans (List.length_filter_le _ _) ?_
  simp [wordsL]
theorem avoidsN_word {K n : Nat} {F : List (List UInt8)} {u : List UInt8} (h : u ∈ avoidsN K F n) : u.length = n := by
  have := (List.mem_filter.1 h).1
  unfold wordsL at this
  obtain ⟨i, _, rfl⟩ := List.mem_map.1 this
  exact wordL_length K n i
theorem wordsL_len {K n : Nat} {u : List UInt8} (h : u ∈ wordsL K n) : u.length = n := by
  unfold wordsL at h
  obtain ⟨i, _, rfl⟩ := List.mem_map.1 h
  exact wordL_length K n i
end Go.Cm
namespace Go.Proofs.YtfiembmfkokllaaGreat
open Go.RowKit Go.Cm

theorem next_fit {F ps : List (List UInt8)} (h : ps.length ≤ 9) : Fits (nextL F ps) := by
  refine ⟨by rw [nextL_length]; omega, fun i => ?_, fun i p hp => ?_⟩
  · by_cases hi : i < ps.length
    · rw [nextL_at F ps i hi]
      have := rowS_length F ps (ps.getD i []) ps.length
      unfold rowS at this
      omega
    · rw [List.getD_eq_getElem?_getD, List.getElem?_eq_none (by rw [nextL_length]; omega)]
      simp
  · by_cases hi : i < ps.length
    · rw [nextL_at F ps i hi] at hp ⊢
      rw [nextL_length, List.getD_eq_getElem?_getD, List.getElem?_eq_getElem hp]
      have := (List.mem_filter.1 (List.getElem_mem hp)).1
      exact List.mem_range.1 this
    · rw [List.getD_eq_getElem?_getD, List.getElem?_eq_none (by rw [nextL_length]; omega)] at hp
      simp at hp

theorem avoids_cf : ∀ args w, (callFunc 36 args).run Tryz.prog w = .ok (.enter 36 args) w := by
  intro args w
  kernel_rfl
theorem lang_cf : ∀ args w, (callFunc 72 args).run Tryz.prog w = .ok (.enter 72 args) w := by
  intro args w
  kernel_rfl

theorem impl_avoiding_any (K n : Nat) (L : Int) (v : Value) (F : List (List UInt8)) (w : World) (hK0 : 0 < K) (hK3 : K ≤ 3) (hn : n ≤ 6) (h : ReadsW w v F) (hm : MaxC w) :
    Calls Tryz.prog 71 #[.int .i64 K, .int .i64 n, .func (.func 36) #[.agg #[.int .i64 L, v]] #[]] w fun e w' => ∃ z, e = .returned z ∧ Own w' w.heap.size 9 z (scells (avoidsN K F n)) ∧ Ext w w' :=
  impl_filtered_any K n _ _ _ (avoidL F) w hK0 hK3 hn avoids_cf fun u w' hu hx => by
    have := impl_avoids_any L v F u w' (h.ext hx) (hm.ext hx) (by rw [wordsL_len hu]; omega)
    simpa using this

theorem impl_avoiding2_any (K : Nat) (L : Int) (v : Value) (F : List (List UInt8)) (w : World) (hK0 : 0 < K) (hK3 : K ≤ 3) (h : ReadsW w v F) (hm : MaxC w) :
    Calls Tryz.prog 71 #[.int .i64 K, .int .i64 2, .func (.func 36) #[.agg #[.int .i64 L, v]] #[]] w fun e w' => ∃ z, e = .returned z ∧ Own w' w.heap.size 9 z (scells (avoidsN K F 2)) ∧ Ext w w' :=
  impl_avoiding_any K 2 L v F w hK0 hK3 (by omega) h hm

set_option maxRecDepth 100000 in
set_option maxHeartbeats 8000000 in
theorem impl_states_any (K : Nat) (v : Value) (F : List (List UInt8)) (w : World) (hK0 : 0 < K) (hK3 : K ≤ 3) (h : ReadsW w v F) (hm : MaxC w) :
    Calls Tryz.prog 39 #[.agg #[.int .i64 K, v]] w fun e w' => ∃ z, e = .returned z ∧ Own w' w.heap.size 9 z (scells (statesL K F)) ∧ Ext w w' := by
  obtain ⟨pa, ca, rfl⟩ := h.slice
  have hx := Ext.alloc w (.cells #[.int .i64 K, .slice pa F.length ca] 26)
  have bo : Blk (w.alloc (.cells #[.int .i64 K, .slice pa F.length ca] 26)) w.heap.size #[.int .i64 K, .slice pa F.length ca] := by (repeat (first | (refine Blk.mk' ?_; (simp; done)) | apply Blk.old))
  have HS := Lib.hid (And.intro (h.ext hx) (hm.ext hx))
  clear h hm
  go_enter Tryz.func39, Tryz.ntmps39
  go_wp2_with fail
  with_reducible refine (impl_avoiding2_any K K _ F _ hK0 hK3 HS.out.1 HS.out.2).mono ?_
  rintro e w1 ⟨z, rfl, hz, hx1⟩
  have bo1 := bo.ext hx1
  have HS1 := Lib.hid (And.intro (HS.out.1.ext hx1) (HS.out.2.ext hx1))
  replace hx1 := hx.trans hx1
  have hps := Own.readsW hz
  clear HS bo hx hz
  obtain ⟨ps, hpsd⟩ : ∃ ps, ps = avoidsN K F 2 := ⟨_, rfl⟩
  have hst : statesL K F = statesOf F ps := by rw [hpsd]; rfl
  have hN9 : ps.length ≤ 9 := by
    rw [hpsd]
    have h1 := avoidsN_length K F 2
    have h2 : K ^ 2 ≤ 3 ^ 2 := Nat.pow_le_pow_left hK3 2
    omega
  have hlen : ∀ k, k < ps.length → (ps.getD k []).length = 2 := by
    intro k hk
    refine avoidsN_word (K := K) (F := F) ?_
    rw [← hpsd, List.getD_eq_getElem?_getD, List.getElem?_eq_getElem hk]
    exact List.getElem_mem hk
  rw [← hpsd] at hps
  have HSt := Lib.hid hst
  clear hst hpsd
  obtain ⟨pz, cz, rfl⟩ := hps.slice
  obtain ⟨-, hlz, hcz⟩ := hps.len
  obtain ⟨N, hN⟩ : ∃ N, N = ps.length := ⟨_, rfl⟩
  rw [← hN] at hps hN9 hlz ⊢
  have HP := Lib.hid (And.intro hps (And.intro hN hlen))
  have hcz' : cz ≤ 9223372036854775807 := hcz
  clear hps hN hlen
  have hT0 : Tab (w1.alloc (.cells #[] 52)) w1.heap.size 52 3 (.slice (some ⟨w1.heap.size, 0, none⟩) 0 0) [] (((nextL F ps).take 0).map ncells) := Tab.nil (Own.lit w1 52 [] (by simp))
  have hx0 := Ext.alloc w1 (.cells #[] 52)
  go_wp2
  go_loopw [4, 21] (fun v i wr => ∃ (p : Nat) (fs : List Value), p ≤ N ∧ i = .int .i64 p ∧ Tab wr w1.heap.size 52 3 v fs (((nextL F ps).take p).map ncells) ∧ (∃ g n c, v = .slice (some ⟨g, 0, none⟩) n c) ∧ Ext w1 wr) (fun _ i _ => N - (intOf i).toNat)
  case atStart => exact ⟨0, [], by omega, rfl, hT0, ⟨_, _, _, rfl⟩, hx0⟩
  case round =>
    clear hT0 hx0
    obtain ⟨p, fs, hp, rfl, hT, hsT, hxr⟩ := hrel
    by_cases hlt : p < N
    · have hpN : p < ps.length := by rw [← HP.out.2.1]; exact hlt
      obtain ⟨b, o, rfl, hcell0⟩ := HP.out.1.at p hpN
      have hul := HP.out.2.2 p hpN
      have hnt := nextL_take F ps p hpN
      obtain ⟨u, hu⟩ : ∃ u, u = ps.getD p [] := ⟨_, rfl⟩
      rw [← hu] at hcell0 hul hnt
      have hcell := hxr.cell_some hcell0
      have HU := Lib.hid (And.intro hnt hul)
      have hsu : (mkS u).size = u.length := mkS_size u
      have hu1 : 1 < (mkS u).size := by omega
      have hu2 : u.length ≤ 2 := by omega
      clear hnt hul hcell0 hu
      obtain ⟨w4, rfl⟩ : ∃ w4 : World, w4 = wr := ⟨_, rfl⟩
      have hw0 : Own (w4.alloc (.cells #[] 3)) w4.heap.size 3 (.slice (some ⟨w4.heap.size, 0, none⟩) 0 0) (ncells (rowS F ps u 0)) := by
        simpa [ncells, rowS] using Own.lit w4 3 [] (by simp)
      have hx40 := Ext.alloc w4 (.cells #[] 3)
      go_wp2
      go_loopw [7, 28] (fun v i wr => ∃ q : Nat, q ≤ N ∧ i = .int .i64 q ∧ Own wr w4.heap.size 3 v (ncells (rowS F ps u q)) ∧ (∃ g n c, v = .slice (some ⟨g, 0, none⟩) n c) ∧ Ext w4 wr) (fun _ i _ => N - (intOf i).toNat)
      case atStart => exact ⟨0, by omega, rfl, hw0, ⟨_, _, _, rfl⟩, hx40⟩
      case round =>
        clear hw0 hx40 hcell
        obtain ⟨q, hq, rfl, hrow, hsl, hxw⟩ := hrel
        by_cases hltq : q < N
        · have hqN : q < ps.length := by rw [← HP.out.2.1]; exact hltq
          have hxr1 := hxr.trans hxw
          obtain ⟨_, _, e, hcq⟩ := (HP.out.1.ext hxr1).at q hqN
          cases e
          have hvl := HP.out.2.2 q hqN
          obtain ⟨x, hx⟩ : ∃ x, x = ps.getD q [] := ⟨_, rfl⟩
          rw [← hx] at hcq hvl
          have hsx : (mkS x).size = x.length := mkS_size x
          have hx1' : 1 < (mkS x).size := by omega
          have hx0' : 0 < (mkS x).size := by omega
          have hx2 : x.length ≤ 2 := by omega
          have hx3 : 1 ≤ x.length := by omega
          have g1 := mkS_get u 1 hu1
          have g2 := mkS_get x 0 hx0'
          obtain ⟨c, hc⟩ : ∃ c, c = (u.getD 1 0 == x.getD 0 0) := ⟨_, rfl⟩
          have hcn : ((((mkS u)[1]'hu1).toNat : Int) == (((mkS x)[0]'hx0').toNat : Int)) = c := by
            rw [hc, g1, g2, Bool.eq_iff_iff]
            simp only [beq_iff_eq]
            exact ⟨fun h => UInt8.toNat_inj.1 (by omega), fun h => by rw [h]⟩
          have hsl1 := mkS_tail x 1
          rw [hsx] at hsl1
          have hcat := mkS_append u (x.drop 1)
          have hfit : ¬ 9223372036854775807 < u.length + (mkS (x.drop 1)).size := by rw [mkS_size, List.length_drop]; omega
          obtain ⟨y, hy⟩ : ∃ y, y = u ++ x.drop 1 := ⟨_, rfl⟩
          have hyl : y.length ≤ 1048576 := by rw [hy, List.length_append, List.length_drop]; omega
          obtain ⟨av, hav⟩ : ∃ av, av = avoidL F y := ⟨_, rfl⟩
          have hca := fun w h hm => impl_avoids_any (K : Int) (.slice pa F.length ca) F y w h hm hyl
          rw [← hav] at hca
          rw [← hy] at hcat
          obtain ⟨d, hd⟩ : ∃ d, d = x.drop 1 := ⟨_, rfl⟩
          rw [← hd] at hsl1 hcat hfit
          have hadj : adjL F u (ps.getD q []) = (c && av) := by
            unfold adjL
            rw [← hx, ← hc, hav, hy]
          clear hd
          have HX := Lib.hid (And.intro hca hadj)
          have hl := rowS_length F ps u q
          have hl1 : (ncells (rowS F ps u q)).length + 1 ≤ maxLen := by rw [ncells_length]; unfold maxLen; omega
          have hl2 : ((ncells (rowS F ps u q)).length + 1) * 8 ≤ 140737488355328 := by rw [ncells_length]; omega
          clear hca hadj hav hy hc hvl hx hl g1 g2 hyl
          have c0 := (bo1.ext hxr1).cell 0 (.int .i64 K) rfl
          have c1 := (bo1.ext hxr1).cell 1 (.slice pa F.length ca) rfl
          have i1 : (1 : Int) < (u.length : Int) := by omega
          have i2 : 0 < x.length := by omega
          have i3 : (1 : Int) ≤ (x.length : Int) := by omega
          cases c
          · have HN := Lib.hid (rowS_no (F := F) (ps := ps) (u := u) (q := q) (by rw [HX.out.2]; rfl))
            go_wp2
            refine wp_region_inv (by kernel_rfl) (.known ?hx6_54_v0 :: .known ?hx6_54_v1 :: .known ?hx6_54_v2 :: .known ?hx6_54_v3 :: .known ?hx6_54_v4 :: .known ?hx6_54_v5 :: .known ?hx6_54_v6 :: .known ?hx6_54_v7 :: .known ?hx6_54_v8 :: .known ?hx6_54_v9 :: .known ?hx6_54_v10 :: .known ?hx6_54_v11 :: .known ?hx6_54_v12 :: []) rfl (by kernel_rfl) ?hx6_54_s ?hx6_54_p
            case hx6_54_s =>
              intro vs
              refine ⟨fun w' hxw hj => ?_, fun w' hxw hj => ?_, fun w' hxw hj => ?_, fun w' hxw hj => ?_, fun w' hxw hj => ?_, fun w' hxw hj => ?_, fun w' hxw hj => ?_, fun w' hxw hj => ?_, fun w' hxw hj => ?_, fun w' hxw hj => ?_, fun w' hxw hj => ?_, fun w' hxw hj => ?_, fun w' hxw hj => ?_, trivial⟩
              · have c0 := Ext.cell_some hxw c0
                have c1 := Ext.cell_some hxw c1
                clear hj
                go_simp
                try go_bits
                first | rfl | (rw [if_pos (by omega), if_pos (by omega)]; go_simp; rfl) | (rw [if_pos (by omega)]; go_simp; rfl) | skip
              · have c0 := Ext.cell_some hxw c0
                have c1 := Ext.cell_some hxw c1
                clear hj
                go_simp
                try go_bits
                first | rfl | (rw [if_pos (by omega), if_pos (by omega)]; go_simp; rfl) | (rw [if_pos (by omega)]; go_simp; rfl) | skip
              · have c0 := Ext.cell_some hxw c0
                have c1 := Ext.cell_some hxw c1
                clear hj
                go_simp
                try go_bits
                first | rfl | (rw [if_pos (by omega), if_pos (by omega)]; go_simp; rfl) | (rw [if_pos (by omega)]; go_simp; rfl) | skip
              · have c0 := Ext.cell_some hxw c0
                have c1 := Ext.cell_some hxw c1
                clear hj
                go_simp
                try go_bits
                first | rfl | (rw [if_pos (by omega), if_pos (by omega)]; go_simp; rfl) | (rw [if_pos (by omega)]; go_simp; rfl) | skip
              · have c0 := Ext.cell_some hxw c0
                have c1 := Ext.cell_some hxw c1
                clear hj
                go_simp
                try go_bits
                first | rfl | (rw [if_pos (by omega), if_pos (by omega)]; go_simp; rfl) | (rw [if_pos (by omega)]; go_simp; rfl) | skip
              · have c0 := Ext.cell_some hxw c0
                have c1 := Ext.cell_some hxw c1
                clear hj
                go_simp
                try go_bits
                first | rfl | (rw [if_pos (by omega), if_pos (by omega)]; go_simp; rfl) | (rw [if_pos (by omega)]; go_simp; rfl) | skip
              · have c0 := Ext.cell_some hxw c0
                have c1 := Ext.cell_some hxw c1
                clear hj
                go_simp
                try go_bits
                first | rfl | (rw [if_pos (by omega), if_pos (by omega)]; go_simp; rfl) | (rw [if_pos (by omega)]; go_simp; rfl) | skip
              · have c0 := Ext.cell_some hxw c0
                have c1 := Ext.cell_some hxw c1
                clear hj
                go_simp
                try go_bits
                first | rfl | (rw [if_pos (by omega), if_pos (by omega)]; go_simp; rfl) | (rw [if_pos (by omega)]; go_simp; rfl) | skip
              · have c0 := Ext.cell_some hxw c0
                have c1 := Ext.cell_some hxw c1
                clear hj
                go_simp
                try go_bits
                first | rfl | (rw [if_pos (by omega), if_pos (by omega)]; go_simp; rfl) | (rw [if_pos (by omega)]; go_simp; rfl) | skip
              · have c0 := Ext.cell_some hxw c0
                have c1 := Ext.cell_some hxw c1
                clear hj
                go_simp
                try go_bits
                first | rfl | (rw [if_pos (by omega), if_pos (by omega)]; go_simp; rfl) | (rw [if_pos (by omega)]; go_simp; rfl) | skip
              · have c0 := Ext.cell_some hxw c0
                have c1 := Ext.cell_some hxw c1
                clear hj
                go_simp
                try go_bits
                first | rfl | (rw [if_pos (by omega), if_pos (by omega)]; go_simp; rfl) | (rw [if_pos (by omega)]; go_simp; rfl) | skip
              · have c0 := Ext.cell_some hxw c0
                have c1 := Ext.cell_some hxw c1
                clear hj
                go_simp
                try go_bits
                first | rfl | (rw [if_pos (by omega), if_pos (by omega)]; go_simp; rfl) | (rw [if_pos (by omega)]; go_simp; rfl) | skip
              · have c0 := Ext.cell_some hxw c0
                have c1 := Ext.cell_some hxw c1
                clear hj
                go_simp
                try go_bits
                first | rfl | (rw [if_pos (by omega), if_pos (by omega)]; go_simp; rfl) | (rw [if_pos (by omega)]; go_simp; rfl) | skip
            case' hx6_54_p =>
              intro vs w6 hx6 hk
              clear hk
              replace c0 := Ext.cell_some hx6 c0
              replace c1 := Ext.cell_some hx6 c1
              replace hrow := Own.ext hrow hx6
              replace hxw := Ext.trans hxw hx6
              go_simp
              clear hx6
              go_wp2
              go_roundw
              case rel => exact ⟨q + 1, by omega, by go_num, by rw [HN.out]; exact hrow, hsl, hxw⟩
              case measure => simp [intOf]; omega
          · cases av
            · have HN := Lib.hid (rowS_no (F := F) (ps := ps) (u := u) (q := q) (by rw [HX.out.2]; rfl))
              go_wp2
              refine wp_region_inv (by kernel_rfl) (.known ?hx6_55_v0 :: .known ?hx6_55_v1 :: .known ?hx6_55_v2 :: .known ?hx6_55_v3 :: .known ?hx6_55_v4 :: .known ?hx6_55_v5 :: .known ?hx6_55_v6 :: .known ?hx6_55_v7 :: .known ?hx6_55_v8 :: .known ?hx6_55_v9 :: .known ?hx6_55_v10 :: .known (.bool false) :: .known ?hx6_55_v12 :: []) rfl (by kernel_rfl) ?hx6_55_s ?hx6_55_p
              case hx6_55_s =>
                intro vs
                refine ⟨fun w' hxw hj => ?_, fun w' hxw hj => ?_, fun w' hxw hj => ?_, fun w' hxw hj => ?_, fun w' hxw hj => ?_, fun w' hxw hj => ?_, fun w' hxw hj => ?_, fun w' hxw hj => ?_, fun w' hxw hj => ?_, fun w' hxw hj => ?_, fun w' hxw hj => ?_, fun w' hxw hj => ?_, fun w' hxw hj => ?_, trivial⟩
                · have c0 := Ext.cell_some hxw c0
                  have c1 := Ext.cell_some hxw c1
                  clear hj
                  go_simp
                  try go_bits
                  first | rfl | (rw [if_pos (by omega), if_pos (by omega)]; go_simp; rfl) | (rw [if_pos (by omega)]; go_simp; rfl) | skip
                · have c0 := Ext.cell_some hxw c0
                  have c1 := Ext.cell_some hxw c1
                  clear hj
                  go_simp
                  try go_bits
                  first | rfl | (rw [if_pos (by omega), if_pos (by omega)]; go_simp; rfl) | (rw [if_pos (by omega)]; go_simp; rfl) | skip
                · have c0 := Ext.cell_some hxw c0
                  have c1 := Ext.cell_some hxw c1
                  clear hj
                  go_simp
                  try go_bits
                  first | rfl | (rw [if_pos (by omega), if_pos (by omega)]; go_simp; rfl) | (rw [if_pos (by omega)]; go_simp; rfl) | skip
                · have c0 := Ext.cell_some hxw c0
                  have c1 := Ext.cell_some hxw c1
                  clear hj
                  go_simp
                  try go_bits
                  first | rfl | (rw [if_pos (by omega), if_pos (by omega)]; go_simp; rfl) | (rw [if_pos (by omega)]; go_simp; rfl) | skip
                · have c0 := Ext.cell_some hxw c0
                  have c1 := Ext.cell_some hxw c1
                  clear hj
                  go_simp
                  try go_bits
                  first | rfl | (rw [if_pos (by omega), if_pos (by omega)]; go_simp; rfl) | (rw [if_pos (by omega)]; go_simp; rfl) | skip
                · have c0 := Ext.cell_some hxw c0
                  have c1 := Ext.cell_some hxw c1
                  clear hj
                  go_simp
                  try go_bits
                  first | rfl | (rw [if_pos (by omega), if_pos (by omega)]; go_simp; rfl) | (rw [if_pos (by omega)]; go_simp; rfl) | skip
                · have c0 := Ext.cell_some hxw c0
                  have c1 := Ext.cell_some hxw c1
                  clear hj
                  go_simp
                  try go_bits
                  first | rfl | (rw [if_pos (by omega), if_pos (by omega)]; go_simp; rfl) | (rw [if_pos (by omega)]; go_simp; rfl) | skip
                · have c0 := Ext.cell_some hxw c0
                  have c1 := Ext.cell_some hxw c1
                  clear hj
                  go_simp
                  try go_bits
                  first | rfl | (rw [if_pos (by omega), if_pos (by omega)]; go_simp; rfl) | (rw [if_pos (by omega)]; go_simp; rfl) | skip
                · have c0 := Ext.cell_some hxw c0
                  have c1 := Ext.cell_some hxw c1
                  clear hj
                  go_simp
                  try go_bits
                  first | rfl | (rw [if_pos (by omega), if_pos (by omega)]; go_simp; rfl) | (rw [if_pos (by omega)]; go_simp; rfl) | skip
                · have c0 := Ext.cell_some hxw c0
                  have c1 := Ext.cell_some hxw c1
                  clear hj
                  go_simp
                  try go_bits
                  first | rfl | (rw [if_pos (by omega), if_pos (by omega)]; go_simp; rfl) | (rw [if_pos (by omega)]; go_simp; rfl) | skip
                · have c0 := Ext.cell_some hxw c0
                  have c1 := Ext.cell_some hxw c1
                  clear hj
                  go_simp
                  try go_bits
                  first | rfl | (rw [if_pos (by omega), if_pos (by omega)]; go_simp; rfl) | (rw [if_pos (by omega)]; go_simp; rfl) | skip
                · have c0 := Ext.cell_some hxw c0
                  have c1 := Ext.cell_some hxw c1
                  clear hj
                  go_simp
                  try go_bits
                  exact HX.out.1 _ ((HS1.out.1.ext hxr1).ext hxw) ((HS1.out.2.ext hxr1).ext hxw)
                · have c0 := Ext.cell_some hxw c0
                  have c1 := Ext.cell_some hxw c1
                  clear hj
                  go_simp
                  try go_bits
                  first | rfl | (rw [if_pos (by omega), if_pos (by omega)]; go_simp; rfl) | (rw [if_pos (by omega)]; go_simp; rfl) | skip
              case' hx6_55_p =>
                intro vs w6 hx6 hk
                clear hk
                replace c0 := Ext.cell_some hx6 c0
                replace c1 := Ext.cell_some hx6 c1
                replace hrow := Own.ext hrow hx6
                replace hxw := Ext.trans hxw hx6
                go_simp
                clear hx6
                go_wp2
                go_roundw
                case rel => exact ⟨q + 1, by omega, by go_num, by rw [HN.out]; exact hrow, hsl, hxw⟩
                case measure => simp [intOf]; omega
            · have HN := Lib.hid (rowS_yes (F := F) (ps := ps) (u := u) (q := q) (by rw [HX.out.2]; rfl))
              go_wp2
              refine wp_region_inv (by kernel_rfl) (.known ?hx6_56_v0 :: .known ?hx6_56_v1 :: .known ?hx6_56_v2 :: .known ?hx6_56_v3 :: .known ?hx6_56_v4 :: .known ?hx6_56_v5 :: .known ?hx6_56_v6 :: .known ?hx6_56_v7 :: .known ?hx6_56_v8 :: .known ?hx6_56_v9 :: .known ?hx6_56_v10 :: .known (.bool true) :: .known ?hx6_56_v12 :: []) rfl (by kernel_rfl) ?hx6_56_s ?hx6_56_p
              case hx6_56_s =>
                intro vs
                refine ⟨fun w' hxw hj => ?_, fun w' hxw hj => ?_, fun w' hxw hj => ?_, fun w' hxw hj => ?_, fun w' hxw hj => ?_, fun w' hxw hj => ?_, fun w' hxw hj => ?_, fun w' hxw hj => ?_, fun w' hxw hj => ?_, fun w' hxw hj => ?_, fun w' hxw hj => ?_, fun w' hxw hj => ?_, fun w' hxw hj => ?_, trivial⟩
                · have c0 := Ext.cell_some hxw c0
                  have c1 := Ext.cell_some hxw c1
                  clear hj
                  go_simp
                  try go_bits
                  first | rfl | (rw [if_pos (by omega), if_pos (by omega)]; go_simp; rfl) | (rw [if_pos (by omega)]; go_simp; rfl) | skip
                · have c0 := Ext.cell_some hxw c0
                  have c1 := Ext.cell_some hxw c1
                  clear hj
                  go_simp
                  try go_bits
                  first | rfl | (rw [if_pos (by omega), if_pos (by omega)]; go_simp; rfl) | (rw [if_pos (by omega)]; go_simp; rfl) | skip
                · have c0 := Ext.cell_some hxw c0
                  have c1 := Ext.cell_some hxw c1
                  clear hj
                  go_simp
                  try go_bits
                  first | rfl | (rw [if_pos (by omega), if_pos (by omega)]; go_simp; rfl) | (rw [if_pos (by omega)]; go_simp; rfl) | skip
                · have c0 := Ext.cell_some hxw c0
                  have c1 := Ext.cell_some hxw c1
                  clear hj
                  go_simp
                  try go_bits
                  first | rfl | (rw [if_pos (by omega), if_pos (by omega)]; go_simp; rfl) | (rw [if_pos (by omega)]; go_simp; rfl) | skip
                · have c0 := Ext.cell_some hxw c0
                  have c1 := Ext.cell_some hxw c1
                  clear hj
                  go_simp
                  try go_bits
                  first | rfl | (rw [if_pos (by omega), if_pos (by omega)]; go_simp; rfl) | (rw [if_pos (by omega)]; go_simp; rfl) | skip
                · have c0 := Ext.cell_some hxw c0
                  have c1 := Ext.cell_some hxw c1
                  clear hj
                  go_simp
                  try go_bits
                  first | rfl | (rw [if_pos (by omega), if_pos (by omega)]; go_simp; rfl) | (rw [if_pos (by omega)]; go_simp; rfl) | skip
                · have c0 := Ext.cell_some hxw c0
                  have c1 := Ext.cell_some hxw c1
                  clear hj
                  go_simp
                  try go_bits
                  first | rfl | (rw [if_pos (by omega), if_pos (by omega)]; go_simp; rfl) | (rw [if_pos (by omega)]; go_simp; rfl) | skip
                · have c0 := Ext.cell_some hxw c0
                  have c1 := Ext.cell_some hxw c1
                  clear hj
                  go_simp
                  try go_bits
                  first | rfl | (rw [if_pos (by omega), if_pos (by omega)]; go_simp; rfl) | (rw [if_pos (by omega)]; go_simp; rfl) | skip
                · have c0 := Ext.cell_some hxw c0
                  have c1 := Ext.cell_some hxw c1
                  clear hj
                  go_simp
                  try go_bits
                  first | rfl | (rw [if_pos (by omega), if_pos (by omega)]; go_simp; rfl) | (rw [if_pos (by omega)]; go_simp; rfl) | skip
                · have c0 := Ext.cell_some hxw c0
                  have c1 := Ext.cell_some hxw c1
                  clear hj
                  go_simp
                  try go_bits
                  first | rfl | (rw [if_pos (by omega), if_pos (by omega)]; go_simp; rfl) | (rw [if_pos (by omega)]; go_simp; rfl) | skip
                · have c0 := Ext.cell_some hxw c0
                  have c1 := Ext.cell_some hxw c1
                  clear hj
                  go_simp
                  try go_bits
                  first | rfl | (rw [if_pos (by omega), if_pos (by omega)]; go_simp; rfl) | (rw [if_pos (by omega)]; go_simp; rfl) | skip
                · have c0 := Ext.cell_some hxw c0
                  have c1 := Ext.cell_some hxw c1
                  clear hj
                  go_simp
                  try go_bits
                  exact HX.out.1 _ ((HS1.out.1.ext hxr1).ext hxw) ((HS1.out.2.ext hxr1).ext hxw)
                · have c0 := Ext.cell_some hxw c0
                  have c1 := Ext.cell_some hxw c1
                  clear hj
                  go_simp
                  try go_bits
                  first | rfl | (rw [if_pos (by omega), if_pos (by omega)]; go_simp; rfl) | (rw [if_pos (by omega)]; go_simp; rfl) | skip
              case' hx6_56_p =>
                intro vs w6 hx6 hk
                clear hk
                replace c0 := Ext.cell_some hx6 c0
                replace c1 := Ext.cell_some hx6 c1
                replace hrow := Own.ext hrow hx6
                replace hxw := Ext.trans hxw hx6
                go_simp
                clear hx6 c0 c1
                go_wp2_with (at_builtin; refine wpList_append_one rfl (.tmp 46) (.tmp 48) 52 rfl 3 _ _ Tryz.underlying52 infoInt rfl w4.heap.size _ _ rfl (hrow.ext (Ext.alloc _ _)) w6.heap.size _ rfl (by simp; rfl) rfl hl1 hl2 w4 rfl (hxw.trans (Ext.alloc _ _)) ?_; intro v' w9 hown9 hx9 hmv)
                have hsl9 : ∃ g n c, v' = .slice (some ⟨g, 0, none⟩) n c := by
                  rcases hown9.shape with ⟨_, h⟩ | ⟨g', c', h, _⟩
                  · simp at h
                  · exact ⟨g', _, c', h⟩
                go_roundw
                case rel => exact ⟨q + 1, by omega, by go_num, by rw [HN.out]; simpa [ncells] using hown9, hsl9, hx9⟩
                case measure => simp [intOf]; omega
        · have hqN : q = N := by omega
          obtain ⟨rg, rn, rc, rfl⟩ := hsl
          have hTb := (hT.ext hxw).ext (Ext.alloc wr (.cells #[.slice (some ⟨rg, 0, none⟩) rn rc] 52))
          have hrowb := (hrow.ext (Ext.alloc wr (.cells #[.slice (some ⟨rg, 0, none⟩) rn rc] 52))).mono (B' := w1.heap.size) (Ext.size hxr)
          have hne : ∀ k, (Value.slice (some ⟨rg, 0, none⟩) rn rc).ownBlock = some k → u4.ownBlock ≠ some k := by
            intro k hk hk2
            have h1 := (World.ownsRow.lt hrow k hk).1
            have h2 := (World.ownsRow.lt hT.own k hk2).2
            omega
          have hxb := (hxr.trans hxw).trans (Ext.alloc wr (.cells #[.slice (some ⟨rg, 0, none⟩) rn rc] 52))
          have hcx : (wr.alloc (.cells #[.slice (some ⟨rg, 0, none⟩) rn rc] 52)).cell? ⟨wr.heap.size, 0, none⟩ = some (.slice (some ⟨rg, 0, none⟩) rn rc) := by simp
          have hfl : fs.length ≤ 9 := by
            rw [hT.len]
            simp
            omega
          have hl1 : fs.length + 1 ≤ maxLen := by unfold maxLen; omega
          have hl2 : (fs.length + 1) * 24 ≤ 140737488355328 := by omega
          have HT := Lib.hid (And.intro hTb (And.intro hrowb hne))
          have hownb := hTb.own
          clear hTb hrowb hne hfl hrow hxw
          go_wp2_with (at_builtin; refine wpList_append_one rfl (.tmp 51) (.tmp 53) 30 rfl 52 _ _ Tryz.underlying30 infoRow rfl w1.heap.size _ _ rfl hownb wr.heap.size _ rfl hcx rfl hl1 hl2 w1 rfl hxb ?_; intro v' w9 hown9 hx9 hmv)
          have hT9 := Tab.push HT.out.1 HT.out.2.1 ⟨rg, rn, rc, rfl⟩ HT.out.2.2 hown9 hmv
          have e9 : ((nextL F ps).take p).map ncells ++ [ncells (rowS F ps u q)] = ((nextL F ps).take (p + 1)).map ncells := by
            rw [HU.out.1, List.map_append, hqN, HP.out.2.1]
            rfl
          rw [e9] at hT9
          have hsl9 : ∃ g n c, v' = .slice (some ⟨g, 0, none⟩) n c := by
            rcases hown9.shape with ⟨_, h⟩ | ⟨g', c', h, _⟩
            · simp at h
            · exact ⟨g', _, c', h⟩
          clear e9
          go_roundw
          case rel => exact ⟨p + 1, _, by omega, by go_num, hT9, hsl9, hx9⟩
          case measure => simp [intOf]; omega
    · have hpN : p = N := by omega
      have eall : (nextL F ps).take p = nextL F ps := List.take_of_length_le (by rw [nextL_length, hpN, HP.out.2.1]; exact Nat.le_refl _)
      rw [eall] at hT
      obtain ⟨g, n', cap, rfl⟩ := hsT
      have hn' : n' = N := by
        have h1 := hT.own.len
        have h2 := hT.len
        rw [List.length_map, nextL_length, ← HP.out.2.1] at h2
        omega
      subst hn'
      obtain ⟨wt, rfl⟩ : ∃ wt : World, wt = wr := ⟨_, rfl⟩
      have hT' := hT.ext (Ext.alloc wt (.cells #[] 9))
      have hcall := impl_lively_any (nextL F ps) g n' cap _ fs _ hT' (by rw [nextL_length, HP.out.2.1]) (next_fit (by rw [← HP.out.2.1]; exact hN9))
      have HC := Lib.hid hcall
      have hB0 : Own (wt.alloc (.cells #[] 9)) w.heap.size 9 (.slice (some ⟨wt.heap.size, 0, none⟩) 0 0) [] := (Own.lit wt 9 [] (by simp)).mono (by have := (hx1.trans hxr).size; omega)
      have hxt := hxr.trans (Ext.alloc wt (.cells #[] 9))
      clear hcall hT hT' eall
      go_wp2_with fail
      with_reducible refine HC.out.mono ?_
      rintro e w9 ⟨z, c, rfl, hz, hx9⟩
      have hz0 : wt.heap.size < z := by
        have := (World.ownsRow.lt hz z rfl).1
        simp at this
        omega
      replace hB0 := hB0.ext hx9
      replace hxt := hxt.trans hx9
      clear HC hx9
      have hll : (livelyL (nextL F ps)).length = n' := by rw [livelyL, liveN_length, nextL_length, HP.out.2.1]
      obtain ⟨l, hl⟩ : ∃ l, l = livelyL (nextL F ps) := ⟨_, rfl⟩
      rw [← hl] at hz hll
      have HL := Lib.hid (And.intro hll hl)
      clear hll hl
      have hcap9 := hz.caps
      go_wp2
      go_loopw [10, 60] (fun v i wr => ∃ j : Nat, j ≤ n' ∧ i = .int .i64 j ∧ Own wr w.heap.size 9 v (scells (keepTo ps l j)) ∧ Grew w9 (.slice (some ⟨wt.heap.size, 0, none⟩) 0 0) wr v ∧ Ext w wr) (fun _ i _ => n' - (intOf i).toNat)
      case atStart => exact ⟨0, by omega, rfl, hB0, Grew.refl _ _, hx1.trans hxt⟩
      case round =>
        clear hB0
        obtain ⟨j, hj, rfl, hown, hgr, hxq⟩ := hrel
        by_cases hltj : j < n'
        · have hjN : j < ps.length := by rw [← HP.out.2.1]; exact hltj
          have hcj := (hgr.own hz (by intro k hk; simp [Value.ownBlock] at hk ⊢; omega)).cell j (by rw [tcells_length, HL.out.1]; exact hltj)
          rw [tcells_at _ _ (by rw [HL.out.1]; exact hltj)] at hcj
          obtain ⟨b, o, rfl, hcq0⟩ := HP.out.1.at j hjN
          have hblt := World.block_lt_of_cell? w1 _ hcq0
          have hcq := hgr.cell (hxt.cell_some hcq0) (by have := hxr.size; simp [Value.ownBlock] at hblt ⊢; omega)
          clear hcq0 hblt
          obtain ⟨x, hx⟩ : ∃ x, x = ps.getD j [] := ⟨_, rfl⟩
          rw [← hx] at hcq
          have HX := Lib.hid hx
          have hlk := keepTo_length_le ps l j
          have HK := Lib.hid hlk
          clear hx hlk
          cases hb : l.getD j false
          · rw [hb] at hcj
            have HF := Lib.hid (keepTo_no (ps := ps) hb)
            clear hb
            go_wp2
            go_roundw
            case rel => exact ⟨j + 1, by omega, by go_num, by rw [HF.out]; exact hown, hgr, hxq⟩
            case measure => simp [intOf]; omega
          · rw [hb] at hcj
            have HF := Lib.hid (keepTo_yes (ps := ps) hb)
            clear hb
            have hl1 : (scells (keepTo ps l j)).length + 1 ≤ maxLen := by have := HK.out; rw [scells_length]; unfold maxLen; omega
            have hl2 : ((scells (keepTo ps l j)).length + 1) * 16 ≤ 140737488355328 := by have := HK.out; rw [scells_length]; omega
            have hxw := hxq.trans (Ext.alloc wr (.cells #[.string (mkS x)] 9))
            go_wp2_with (at_builtin; refine wpList_append_one rfl (.tmp 66) (.tmp 71) 24 rfl 9 _ _ Tryz.underlying24 infoStr rfl w.heap.size _ _ rfl (hown.ext (Ext.alloc _ _)) wr.heap.size _ rfl (by simp; rfl) rfl hl1 hl2 w rfl hxw ?_; intro v' w5 hown5 hx5 hmv)
            have hgr5 := (hgr.ext (Ext.alloc _ _)).step hmv
            go_roundw
            case rel => exact ⟨j + 1, by omega, by go_num, by rw [HF.out, ← HX.out]; simpa [scells] using hown5, hgr5, hx5⟩
            case measure => simp [intOf]; omega
        · have hjn : j = n' := by omega
          have HF := Lib.hid (show keepTo ps l j = statesL K F by rw [HSt.out, hjn, HL.out.2, HP.out.2.1]; rfl)
          rw [HF.out] at hown
          go_wp2
          go_ret
          exact ⟨_, rfl, hown, hxq⟩
end Go.Proofs.YtfiembmfkokllaaGreat

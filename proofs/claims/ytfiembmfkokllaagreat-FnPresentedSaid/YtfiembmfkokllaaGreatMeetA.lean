/- Contracts: two lists of words one behind the other, sorted, each word once; a shift's copy. -/
import Derived.Test.YtfiembmfkokllaaGreatShFi
import Derived.Test.YtfiembmfkokllaaGreatPkB
import Derived.Test.YtfiembmfkokllaaGreatOwn6
namespace Go.Proofs.YtfiembmfkokllaaGreat
open Go.RowKit Go.Cm Go.Sort

set_option maxRecDepth 100000 in
/-- slices.Grow of nil: an empty row of the call's own -/
theorem growS_any (n : Nat) (w : World) (hn : n ≤ 1000) :
    Calls Tryz.prog 84 #[.slice none 0 0, .int .i64 n] w fun e w' => ∃ v, e = .returned v ∧ Own w' w.heap.size 9 v (scells []) ∧ Ext w w' := by
  by_cases h0 : n = 0
  · subst h0
    go_enter Tryz.func84, Tryz.ntmps84
    go_wp2
    go_ret
    exact ⟨.slice none 0 0, rfl, Own.nil _ _ _, Ext.refl _⟩
  · obtain ⟨i, hi, hzz⟩ := Option.map_eq_some_iff.1 infoStr
    simp only [Prod.mk.injEq] at hzz
    obtain ⟨hz, hsz, hb⟩ := hzz
    have happ := Lib.run_append_nil_zeros (P := Tryz.prog) w 24 3 24 9 i (.string ⟨#[]⟩) .i64 .i64 Tryz.underlying24 (by kernel_rfl) hi hz n (by omega) (by omega) (by omega) (by rw [hb]; omega)
    have hown := own_room (w := w) (E := 9) (z := .string ⟨#[]⟩) rfl n (by unfold maxLen; omega)
    have hext := ext_room (w := w) (E := 9) (cs := Builtin.zeroCells (Value.string ⟨#[]⟩).cells n ++ Builtin.zeroCells (Value.string ⟨#[]⟩).cells (grownCap w n 0 9 - n))
    obtain ⟨c, hc⟩ : ∃ c, c = grownCap w n 0 9 := ⟨_, rfl⟩
    obtain ⟨cs, hcs⟩ : ∃ cs, cs = Builtin.zeroCells (Value.string ⟨#[]⟩).cells n ++ Builtin.zeroCells (Value.string ⟨#[]⟩).cells (grownCap w n 0 9 - n) := ⟨_, rfl⟩
    rw [← hcs, ← hc] at happ hown
    rw [← hcs] at hext
    have hle : n ≤ c := by rw [hc]; exact grownCap_ge w n 0 9
    have HO := Lib.hid (And.intro hown hext)
    clear hown hext hc hcs hi hz hsz hb
    go_enter Tryz.func84, Tryz.ntmps84
    go_wp2_with (at_builtin; refine wpList_append_known rfl (.tmp 20) (.tmp 21) 24 3 rfl _ _ rfl rfl _ _ happ ?_)
    go_ret
    exact ⟨_, rfl, HO.out.1, HO.out.2⟩

set_option maxRecDepth 100000 in
set_option maxHeartbeats 1000000 in
/-- slices.Concat of two lists -/
theorem concatS_any (b : Nat) (v v' : Value) (F G : List (List UInt8)) (w : World) (hb : Blk w b #[v, v']) (h : ReadsW w v F) (h' : ReadsW w v' G) (hF : F.length ≤ 8) (hG : G.length ≤ 8) :
    Calls Tryz.prog 51 #[.slice (some ⟨b, 0, none⟩) 2 2] w fun e w' => ∃ z, e = .returned z ∧ Own w' w.heap.size 9 z (scells (F ++ G)) ∧ Ext w w' := by
  obtain ⟨pa, ca, rfl⟩ := h.slice
  obtain ⟨pb, cb, rfl⟩ := h'.slice
  obtain ⟨n, hn⟩ : ∃ n, n = F.length := ⟨_, rfl⟩
  obtain ⟨m, hm⟩ : ∃ m, m = G.length := ⟨_, rfl⟩
  rw [← hn] at h hb hF
  rw [← hm] at h' hb hG
  have c0 := hb.cell 0 _ rfl
  have c1 := hb.cell 1 _ rfl
  have HB := Lib.hid hb
  have hg0 := growS_any (n + m) w (by omega)
  rw [Int.natCast_add] at hg0
  have HG := Lib.hid hg0
  clear hg0
  have HA := Lib.hid (And.intro h (And.intro h' (And.intro hn hm)))
  clear h h' hn hm hb
  go_enter Tryz.func51, Tryz.ntmps51
  go_wp2
  go_loop [3, 11] (fun v i => (i = .int .i64 0 ∧ v = .int .i64 0) ∨ (i = .int .i64 1 ∧ v = .int .i64 (n : Int)) ∨ (i = .int .i64 2 ∧ v = .int .i64 ((n : Int) + (m : Int)))) (fun _ i => 2 - (intOf i).toNat)
  case atStart => exact .inl ⟨rfl, rfl⟩
  case round =>
    rcases hrel with ⟨rfl, rfl⟩ | ⟨rfl, rfl⟩ | ⟨rfl, rfl⟩
    · go_wp2
      go_round
      case rel => exact .inr (.inl ⟨rfl, by simp⟩)
      case measure => simp [intOf]
    · go_wp2
      go_round
      case rel => exact .inr (.inr ⟨rfl, rfl⟩)
      case measure => simp [intOf]
    · go_wp2_with fail
      with_reducible refine HG.out.mono ?_
      rintro e w1 ⟨z, rfl, hz, hx⟩
      replace c0 := hx.cell_some c0
      replace c1 := hx.cell_some c1
      have HZ := Lib.hid (And.intro hz hx)
      clear hz hx
      go_wp2
      go_loopw [6, 27] (fun v i wr => Ext w wr ∧ ((i = .int .i64 0 ∧ Own wr w.heap.size 9 v (scells [])) ∨ (i = .int .i64 1 ∧ Own wr w.heap.size 9 v (scells F)) ∨ (i = .int .i64 2 ∧ Own wr w.heap.size 9 v (scells (F ++ G))))) (fun _ i _ => 2 - (intOf i).toNat)
      case atStart => exact ⟨HZ.out.2, .inl ⟨rfl, HZ.out.1⟩⟩
      case round =>
        obtain ⟨hxr, hrel⟩ := hrel
        have c0 := (HB.out.ext hxr).cell 0 _ rfl
        have c1 := (HB.out.ext hxr).cell 1 _ rfl
        rcases hrel with ⟨rfl, hown⟩ | ⟨rfl, hown⟩ | ⟨rfl, hown⟩
        · have hr := HA.out.1.ext hxr
          have hl1 : (scells []).length + (scells F).length ≤ maxLen := by rw [scells_length, scells_length, ← HA.out.2.2.1]; unfold maxLen; simp; omega
          have hl2 : ((scells []).length + (scells F).length) * 16 ≤ 140737488355328 := by rw [scells_length, scells_length, ← HA.out.2.2.1]; simp; omega
          have HO := Lib.hid (And.intro hown (And.intro hr (And.intro hl1 (And.intro hl2 hxr))))
          clear hown hr hl1 hl2
          go_wp2_with (at_builtin; refine wpList_append_reads rfl (.tmp 31) (.tmp 32) 24 rfl 9 _ _ Tryz.underlying24 infoStr rfl w.heap.size _ _ rfl HO.out.1 _ (scells F) rfl HO.out.2.1 (scells_one _) HO.out.2.2.1 HO.out.2.2.2.1 HO.out.2.2.2.2.size ?_; intro v' w4 hown4 hgb4 hmv4)
          go_round
          case rel => exact ⟨HO.out.2.2.2.2.grown hgb4 (fun k hk => (World.ownsRow.lt HO.out.1 k hk).1), .inr (.inl ⟨rfl, by simpa [scells] using hown4⟩)⟩
          case measure => simp [intOf]
        · have hr := HA.out.2.1.ext hxr
          have hl1 : (scells F).length + (scells G).length ≤ maxLen := by rw [scells_length, scells_length, ← HA.out.2.2.1, ← HA.out.2.2.2]; unfold maxLen; omega
          have hl2 : ((scells F).length + (scells G).length) * 16 ≤ 140737488355328 := by rw [scells_length, scells_length, ← HA.out.2.2.1, ← HA.out.2.2.2]; omega
          have HO := Lib.hid (And.intro hown (And.intro hr (And.intro hl1 (And.intro hl2 hxr))))
          clear hown hr hl1 hl2
          go_wp2_with (at_builtin; refine wpList_append_reads rfl (.tmp 31) (.tmp 32) 24 rfl 9 _ _ Tryz.underlying24 infoStr rfl w.heap.size _ _ rfl HO.out.1 _ (scells G) rfl HO.out.2.1 (scells_one _) HO.out.2.2.1 HO.out.2.2.2.1 HO.out.2.2.2.2.size ?_; intro v' w4 hown4 hgb4 hmv4)
          go_round
          case rel => exact ⟨HO.out.2.2.2.2.grown hgb4 (fun k hk => (World.ownsRow.lt HO.out.1 k hk).1), .inr (.inr ⟨rfl, by simpa [scells] using hown4⟩)⟩
          case measure => simp [intOf]
        · go_wp2
          go_ret
          exact ⟨_, rfl, hown, hxr⟩

theorem compact_len (l : List (List UInt8)) : (Lib.compact l).length ≤ l.length := by
  unfold Lib.compact Lib.compactUpTo
  rw [List.length_map]
  exact Nat.le_trans (List.length_filter_le _ _) (by simp)
theorem compact_own (B : Nat) (v : Value) (l : List (List UInt8)) (w : World) (hown : Own w B 9 v (scells l)) :
    Calls Tryz.prog 83 #[v] w fun e w' => ∃ z, e = .returned z ∧ Own w' B 9 z (scells (Lib.compact l)) ∧ w.grownBy w' v.ownBlock := by
  have hown' := hown
  unfold Own at hown'
  rw [scells_length] at hown'
  rcases hown'.2 with ⟨hv, hn⟩ | ⟨g, cap, cur, hv, hbg, hb, h1, h2, h3, h4⟩
  · have hl0 : l = [] := List.eq_nil_of_length_eq_zero hn
    subst hl0; subst hv
    exact (Tryz.slices_Compact_string_empty none 0 w).mono fun e w' ⟨h1, h2⟩ => ⟨_, h1, by rw [h2]; exact hown, by rw [h2]; exact GB.refl _ _⟩
  · subst hv
    refine (Tryz.slices_Compact_string g 0 cap l w (holds_of_block hb (by rw [Nat.mul_one] at h4; exact h4)) (by unfold maxLen at h2; omega) h1).mono fun e w' ⟨h5, q, h6⟩ => ⟨_, h5, ?_, ?_⟩
    · have hle := compact_len l
      have ho : Own (Sort.grow (putRow encStr (Sort.ahead w q) g 0 (Lib.compact l ++ List.replicate (l.length - (Lib.compact l).length) []).toArray) #[]) B 9 (.slice (some ⟨g, 0, none⟩) l.length cap) (scells (Lib.compact l ++ List.replicate (l.length - (Lib.compact l).length) [])) := by
        unfold Own
        rw [scells_length, show (Lib.compact l ++ List.replicate (l.length - (Lib.compact l).length) ([] : List UInt8)).length = l.length by simp; omega]
        exact ownsRow_sorted (by simp; omega) hbg hb h1 h2 h3
      have ht := ho.take (Lib.compact l).length hle
      rw [scells_take, List.take_left] at ht
      rw [h6]
      have e : ∀ w : World, Sort.grow w #[] = w := fun w => by simp [Sort.grow]
      rw [e] at ht
      exact ht
    · rw [h6]
      have e : ∀ w : World, Sort.grow w #[] = w := fun w => by simp [Sort.grow]
      have := grownBy_sorted (w := w) (g := g) (n := q) (os := #[]) (Lib.compact l ++ List.replicate (l.length - (Lib.compact l).length) []).toArray
      rw [e] at this
      exact this

theorem different_own (v : Value) (l : List (List UInt8)) (B : Nat) (w : World) (hown : Own w B 9 v (scells l)) (hl : l.length ≤ 1000) :
    Calls Tryz.prog 50 #[v] w fun e w' => ∃ z, e = .returned z ∧ Own w' B 9 z (scells (Lib.compact (l.mergeSort fun x y => decide (x ≤ y)))) ∧ w.grownBy w' v.ownBlock := by
  have HS := Lib.hid (sort_own B v l w hown hl)
  obtain ⟨a, n, c, rfl⟩ := own_slice hown
  clear hown
  go_enter Tryz.func50, Tryz.ntmps50
  go_wp2_with fail
  with_reducible refine HS.out.mono ?_
  rintro e w1 ⟨rfl, ho, hg⟩
  go_wp2_with fail
  with_reducible refine (compact_own B _ _ w1 ho).mono ?_
  rintro e w2 ⟨z, rfl, ho2, hg2⟩
  go_wp2
  go_ret
  exact ⟨z, rfl, ho2, hg.trans hg2⟩

set_option maxRecDepth 100000 in
set_option maxHeartbeats 1000000 in
theorem spec_l3Copy_any (L : Int) (v : Value) (F : List (List UInt8)) (w : World) (h : ReadsW w v F) (hF : F.length ≤ 1000) :
    Calls Tryz.prog 52 #[.agg #[.int .i64 L, v]] w fun e w' => ∃ g c, e = .returned (.agg #[.int .i64 L, .slice (some ⟨g, 0, none⟩) F.length c]) ∧ Own w' w.heap.size 9 (.slice (some ⟨g, 0, none⟩) F.length c) (scells F) ∧ Ext w w' := by
  obtain ⟨pa, ca, rfl⟩ := h.slice
  have hx := (Ext.alloc w (.cells #[.int .i64 L, .slice pa F.length ca] 26)).trans (Ext.alloc _ (.cells #[.int .i64 0, .slice none 0 0] 26))
  have bo : Blk ((w.alloc (.cells #[.int .i64 L, .slice pa F.length ca] 26)).alloc (.cells #[.int .i64 0, .slice none 0 0] 26)) w.heap.size #[.int .i64 L, .slice pa F.length ca] := by (repeat (first | (refine Blk.mk' ?_; (simp; done)) | apply Blk.old))
  have br : Blk ((w.alloc (.cells #[.int .i64 L, .slice pa F.length ca] 26)).alloc (.cells #[.int .i64 0, .slice none 0 0] 26)) (w.heap.size + 1) #[.int .i64 0, .slice none 0 0] := by (repeat (first | (refine Blk.mk' ?_; (simp; done)) | apply Blk.old))
  have c0 := bo.cell 0 (.int .i64 L) rfl
  have c1 := bo.cell 1 (.slice pa F.length ca) rfl
  have HS := Lib.hid h
  clear h
  have hl1 : (scells F).length ≤ maxLen := by rw [scells_length]; unfold maxLen; omega
  have hl2 : (scells F).length * 16 ≤ 140737488355328 := by rw [scells_length]; omega
  have HL := Lib.hid (And.intro hl1 hl2)
  clear hl1 hl2
  obtain ⟨B, hB⟩ : ∃ B, B = w.heap.size + 2 := ⟨_, rfl⟩
  have HZ := Lib.hid (show B ≤ ((w.alloc (.cells #[.int .i64 L, .slice pa F.length ca] 26)).alloc (.cells #[.int .i64 0, .slice none 0 0] 26)).heap.size by rw [hB]; simp)
  have HB := Lib.hid hB
  clear hB
  go_enter Tryz.func52, Tryz.ntmps52
  go_wp2
  refine wp_region_tail (by kernel_rfl) 6 (.known ?hy_37_v0 :: .known ?hy_37_v1 :: .such (EmptyRow B 9) (EmptyRow.ok _ _) :: .known ?hy_37_v3 :: .known ?hy_37_v4 :: .such (FullRow B 9 (scells F)) (FullRow.ok _ _ _) :: []) rfl (by decide) (by kernel_rfl) (by kernel_rfl) ?hy_37_s ?hy_37_p
  case hy_37_s =>
    intro vs
    refine ⟨fun w' hxw hj => ?_, fun w' hxw hj => ?_, fun w' hxw hj => ?_, fun w' hxw hj => ?_, fun w' hxw hj => ?_, fun w' hxw hj => ?_, trivial⟩
    · have c0 := Ext.cell_some hxw c0
      have c1 := Ext.cell_some hxw c1
      clear hj
      go_simp
      try go_bits
      first | rfl | (rw [if_pos (by omega), if_pos (by omega)]; go_simp; rfl) | (rw [if_pos (by omega)]; go_simp; rfl) | skip
    · have c0 := Ext.cell_some hxw c0
      have c1 := Ext.cell_some hxw c1
      clear hj
      go_simp
      try go_bits
      first | rfl | (rw [if_pos (by omega), if_pos (by omega)]; go_simp; rfl) | (rw [if_pos (by omega)]; go_simp; rfl) | skip
    · have c0 := Ext.cell_some hxw c0
      have c1 := Ext.cell_some hxw c1
      clear hj
      go_simp
      try go_bits
      exact EmptyRow.new (Nat.le_trans HZ.out hxw.size)
    · have c0 := Ext.cell_some hxw c0
      have c1 := Ext.cell_some hxw c1
      clear hj
      go_simp
      try go_bits
      first | rfl | (rw [if_pos (by omega), if_pos (by omega)]; go_simp; rfl) | (rw [if_pos (by omega)]; go_simp; rfl) | skip
    · have c0 := Ext.cell_some hxw c0
      have c1 := Ext.cell_some hxw c1
      clear hj
      go_simp
      try go_bits
      first | rfl | (rw [if_pos (by omega), if_pos (by omega)]; go_simp; rfl) | (rw [if_pos (by omega)]; go_simp; rfl) | skip
    · have c0 := Ext.cell_some hxw c0
      have c1 := Ext.cell_some hxw c1
      have h2 : EmptyRow B 9 (vs 2) w' := hj 2 (by kernel_rfl)
      clear hj
      refine by_if (by kernel_rfl) ?_
      exact leaves_append_fresh (.tmp 5) (.tmp 7) 24 rfl 9 _ _ Tryz.underlying24 infoStr rfl B h2 (.slice pa F.length ca) rfl (scells F) (HS.out.ext (hx.trans hxw)) HL.out.1 HL.out.2 (Nat.le_trans HZ.out hxw.size)
  case' hy_37_p =>
    intro vs w3 hy hk
    have k2 : (EmptyRow B 9) (vs 2) w3 := hk 2 _ rfl
    have k5 : (FullRow B 9 (scells F)) (vs 5) w3 := hk 5 _ rfl
    clear hk
    replace c0 := Ext.cell_some hy c0
    replace c1 := Ext.cell_some hy c1
    replace br := Blk.ext br hy
    replace hx := Ext.trans hx hy
    go_simp
    obtain ⟨g, c, e5, ho⟩ := k5
    rw [scells_length] at e5 ho
    have r0 := br.cell 0 (.int .i64 0) rfl
    have r1 := br.cell 1 (.slice none 0 0) rfl
    have f0 := br.frozen 0
    have f1 := br.frozen 1
    have hB := HB.out
    have hgl := (World.ownsRow.lt ho g rfl)
    simp only [e5]
    go_wp2
    have h1 := GB.own (GB.setCell (GB.refl w3 (some (w.heap.size + 1))) 0 (.int .i64 L)) ho (fun j hj e => by have := (World.ownsRow.lt ho j hj).1; injection e with e; omega)
    have h2 := GB.own (GB.setCell (GB.refl _ (some (w.heap.size + 1))) 1 (.slice (some ⟨g, 0, none⟩) F.length c)) h1 (fun j hj e => by have := (World.ownsRow.lt ho j hj).1; injection e with e; omega)
    refine bodyPost_ret (v := .agg #[.int .i64 L, .slice (some ⟨g, 0, none⟩) F.length c]) ?_ rfl ⟨g, c, rfl, h2.mono (by omega), (hx.setCell (by simp) _).setCell (by simp) _⟩
    simp [results, Tryz.results52, go_sem, r0, r1]
end Go.Proofs.YtfiembmfkokllaaGreat

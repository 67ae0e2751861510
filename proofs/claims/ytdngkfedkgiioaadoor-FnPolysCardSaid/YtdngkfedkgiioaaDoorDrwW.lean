/- Contract: the draw of a table for its determinant. -/
import Derived.Test.YtdngkfedkgiioaaDoorDrwV
namespace Go
open Go.RowKit
/-- a row is laid anew: in place or in a new block -/
theorem MTab.renew {w w4 : World} {B : Nat} {T E : TypeId} {g n cap : Nat} {gs cs : Nat → Nat} {m : List (List Int)} (h : MTab w B T E g n cap gs cs m) (i : Nat) (hi : i < m.length) (hg : w.grownBy w4 (some (gs i))) {gr cr : Nat} {r : List Int} (hr : Own w4 B E (.slice (some ⟨gr, 0, none⟩) r.length cr) (icells r)) (hmv : gr = gs i ∨ w.heap.size ≤ gr) :
    MTab (w4.setCell ⟨g, i, none⟩ (.slice (some ⟨gr, 0, none⟩) r.length cr)) B T E g n cap (updN gs i gr) (updN cs i cr) (m.set i r) := by
  have hlt := h.lt
  have hgg : gr ≠ g := by
    rcases hmv with e | e
    · rw [e]; exact h.out i hi
    · omega
  have hgk : ∀ k, k < m.length → k ≠ i → gs k ≠ gr := by
    intro k hk hne
    rcases hmv with e | e
    · rw [e]
      rcases Nat.lt_or_gt_of_ne hne with h1 | h1
      · exact h.inj k i h1 hi
      · exact (h.inj i k h1 hk).symm
    · have := h.rowlt k hk
      omega
  obtain ⟨fs, ho, hf⟩ := h.own
  have ho4 := GB.own hg ho (by
    intro k hk e
    simp [Value.ownBlock] at hk
    have := Option.some.inj e
    have := h.out i hi
    omega)
  have hil : i < fs.length := (List.getElem?_eq_some_iff.1 (hf i hi)).1
  have hset : ∀ {b B' c : Nat} {xs : List Value}, Own w4 B' E (.slice (some ⟨b, 0, none⟩) xs.length c) xs → b ≠ g → Own (w4.setCell ⟨g, i, none⟩ (.slice (some ⟨gr, 0, none⟩) r.length cr)) B' E (.slice (some ⟨b, 0, none⟩) xs.length c) xs := by
    intro b B' c xs hk hne
    refine GB.own (GB.setCell (GB.refl w4 (some g)) _ _) hk ?_
    intro k hk2 e
    simp [Value.ownBlock] at hk2
    have := Option.some.inj e
    omega
  refine ⟨⟨_, ho4.store i _, fun k hk => ?_⟩, fun k hk => ?_, fun k hk => ?_, fun a b hab hb => ?_⟩
  · rw [List.length_set] at hk
    by_cases e : i = k
    · subst e
      rw [List.getElem?_set_self hil, updN_at, updN_at, List.getD_eq_getElem?_getD, List.getElem?_set_self hi]
      rfl
    · rw [List.getElem?_set_ne e, updN_ne _ _ _ _ (fun h => e h.symm), updN_ne _ _ _ _ (fun h => e h.symm), List.getD_eq_getElem?_getD, List.getElem?_set_ne e, ← List.getD_eq_getElem?_getD]
      exact hf k hk
  · rw [List.length_set] at hk
    by_cases e : i = k
    · subst e
      rw [updN_at, updN_at, List.getD_eq_getElem?_getD, List.getElem?_set_self hi]
      have := hset (xs := icells r) (by rw [icells_length]; exact hr) hgg
      rw [icells_length] at this
      exact this
    · rw [updN_ne _ _ _ _ (fun h => e h.symm), updN_ne _ _ _ _ (fun h => e h.symm), List.getD_eq_getElem?_getD, List.getElem?_set_ne e, ← List.getD_eq_getElem?_getD]
      have hk4 := GB.own hg (h.row k hk) (by
        intro q hq e2
        simp [Value.ownBlock] at hq
        have e3 := Option.some.inj e2
        rcases Nat.lt_or_gt_of_ne e with h1 | h1
        · have := h.inj i k h1 hk; omega
        · have := h.inj k i h1 hi; omega)
      have := hset (xs := icells (m.getD k [])) (by rw [icells_length]; exact hk4) (h.out k hk)
      rw [icells_length] at this
      exact this
  · rw [List.length_set] at hk
    by_cases e : i = k
    · subst e; rw [updN_at]; exact hgg
    · rw [updN_ne _ _ _ _ (fun h => e h.symm)]; exact h.out k hk
  · rw [List.length_set] at hb
    by_cases e : i = a
    · subst e
      rw [updN_at, updN_ne _ _ _ _ (by omega)]
      exact (hgk b hb (by omega)).symm
    · rw [updN_ne _ _ _ _ (fun h => e h.symm)]
      by_cases e2 : i = b
      · subst e2; rw [updN_at]; exact hgk a (by omega) (by omega)
      · rw [updN_ne _ _ _ _ (fun h => e2 h.symm)]; exact h.inj a b hab hb
end Go
namespace Go.Proofs.YtdngkfedkgiioaaDoor
open Go.RowKit Go.Cm Go.Mx

/-- a number is appended to the first row, and the row laid again -/
theorem row_app {w7 w8 : World} {o : Obj} {base : Nat} {g n cap G Cc : Nat} {gs cs : Nat → Nat} {TT : List (List Int)} {r0 : List Int} {v4 : Value} (ht : MTab w7 base 26 3 g n cap gs cs TT) (hn : TT.length = n) (hnp : 0 < n) (hr : r0.length = n) (hG : G = gs 0)
    (hsp : w7.cell? ⟨g, 0, none⟩ = some (.slice (some ⟨G, 0, none⟩) n Cc)) (ho : Own w8 base 3 v4 (icells r0 ++ [.int .i64 1])) (hmv : (w7.alloc o).grownBy w8 (Value.slice (some ⟨G, 0, none⟩) n Cc).ownBlock ∧ Moved (w7.alloc o) (Value.slice (some ⟨G, 0, none⟩) n Cc) v4) :
    ∃ g5 c5, v4 = .slice (some ⟨g5, 0, none⟩) (n + 1) c5 ∧ w8.cell? ⟨g, 0, none⟩ = some (.slice (some ⟨G, 0, none⟩) n Cc) ∧ w8.frozen? ⟨g, 0, none⟩ = false ∧ ReadsRows (w8.setCell ⟨g, 0, none⟩ (.slice (some ⟨g5, 0, none⟩) (n + 1) c5)) (.slice (some ⟨g, 0, none⟩) n cap) (TT.set 0 (r0 ++ [1])) ∧ (w7.alloc o).grownBy w8 (some G) := by
  have hl0 : 0 < TT.length := by omega
  have hgG : G ≠ g := by rw [hG]; exact ht.out 0 hl0
  rw [icells_snoc] at ho
  have hl5 : (r0 ++ [1]).length = n + 1 := by rw [List.length_append, hr]; rfl
  obtain ⟨g5, c5, rfl⟩ : ∃ g5 c5, v4 = .slice (some ⟨g5, 0, none⟩) (n + 1) c5 := by
    rcases ho.shape with ⟨_, hnn⟩ | ⟨g5, c5, hv5, hg5, _⟩
    · have := congrArg List.length hnn
      rw [icells_length] at this
      simp at this
    · rw [icells_length, hl5] at hv5
      exact ⟨g5, c5, hv5⟩
  have hgb : (w7.alloc o).grownBy w8 (some G) := hmv.1
  have hmv5 : g5 = gs 0 ∨ (w7.alloc o).heap.size ≤ g5 := by
    rcases hmv.2 with hm | hm
    · left
      have : g5 = G := by simpa [Value.ownBlock] using hm
      rw [this]; exact hG
    · right; exact hm g5 rfl
  have hta := ht.ext (Ext.alloc w7 o)
  rw [← hl5] at ho
  have hnew := hta.renew 0 hl0 (by rw [← hG]; exact hgb) ho hmv5
  rw [hl5] at hnew
  refine ⟨g5, c5, rfl, hgb.cell ((Ext.alloc w7 o).cell_some hsp) (by intro e; have e2 : g = G := (by simpa using e); exact hgG e2.symm), ?_, hnew.reads (by rw [List.length_set]; exact hn.symm), hgb⟩
  obtain ⟨fs, hfo, -⟩ := hta.own
  exact (GB.own hgb hfo (by
    intro k hk e
    simp [Value.ownBlock] at hk
    have := Option.some.inj e
    omega)).frozen 0

set_option maxRecDepth 100000 in
set_option maxHeartbeats 8000000 in
theorem spec_DrawDeterminantOf_any (v : Value) (xs : List UInt8) (w : World) (h : ReadsB w v xs) :
    Calls Tryd.prog 9 #[v] w fun e w' => ∃ u T, e = .returned u ∧ ReadsRows w' u T ∧ Ext w w' := by
  have ho := OldB.start h
  clear h
  go_enter Tryd.func9, Tryd.ntmps9
  go_wp2_with fail
  with_reducible refine ho.new.mono ?_
  rintro e w1 ⟨z, rfl, hz, c, hx⟩
  have hlt := c.lt
  obtain ⟨B, hB⟩ : ∃ B, B = w.heap.size := ⟨_, rfl⟩
  rw [← hB] at c hz
  have HX := Lib.hid (And.intro hx (And.intro hB hz))
  clear hx hB hz ho
  go_wp2_with fail
  with_reducible refine (spec_l1Below_any _ z _ _ c).mono ?_
  rintro e w2 ⟨n, rfl, hn, -, hd⟩
  have hn : n < 5 := by have := hn (by omega); omega
  have hsz := hd.size
  go_wp2_with fail
  with_reducible refine (spec_l4Zero_any n n _ (by omega) (by omega)).mono ?_
  rintro e w3 ⟨g, cap, gs, cs, rfl, ht, hx⟩
  replace ht := ht.mono hsz
  replace hd := hd.ext hx
  have hSh := Sh.zero n
  obtain ⟨T0, hT0⟩ : ∃ T, T = tabF n n fun _ _ => (0 : Int) := ⟨_, rfl⟩
  rw [← hT0] at ht hSh
  clear hx hT0 hsz c
  go_wp2
  go_loopw [6] (fun q wr => ∃ (k : Nat) (T : List (List Int)), k ≤ n ∧ q = .int .i64 k ∧ Sh n T ∧ MTab wr w1.heap.size 26 3 g n cap gs cs T ∧ Drawn B z w1 wr) (fun q _ => n - (intOf q).toNat)
  case atStart => exact ⟨0, T0, by omega, rfl, hSh, ht, hd⟩
  case round =>
    clear hSh ht hd
    obtain ⟨i, T, hi, rfl, hSh, ht, hd⟩ := hrel
    obtain ⟨wm, rfl⟩ : ∃ wm : World, wm = wr := ⟨_, rfl⟩
    by_cases hlti : i < n
    · go_wp2
      go_loopw [7] (fun q wr => ∃ (k : Nat) (T : List (List Int)), k ≤ n ∧ q = .int .i64 k ∧ Sh n T ∧ MTab wr w1.heap.size 26 3 g n cap gs cs T ∧ Drawn B z w1 wr) (fun q _ => n - (intOf q).toNat)
      case atStart => exact ⟨0, T, by omega, rfl, hSh, ht, hd⟩
      case round =>
        clear hSh ht hd
        obtain ⟨j, T, hj, rfl, hSh, ht, hd⟩ := hrel
        by_cases hltj : j < n
        · have hgl := ht.lt
          have hgc := ht.caps
          have hrl := ht.rowlt i (by rw [hSh.1]; exact hlti)
          have hrc := (ht.row i (by rw [hSh.1]; exact hlti)).caps
          have hsp := ht.spot i (by rw [hSh.1]; exact hlti)
          rw [hSh.2 i hlti] at hsp hrc
          obtain ⟨G, hG⟩ : ∃ G, G = gs i := ⟨_, rfl⟩
          rw [← hG] at hsp hrl
          obtain ⟨Cc, hC⟩ : ∃ C, C = cs i := ⟨_, rfl⟩
          rw [← hC] at hsp hrc
          have hzg : z < g := by omega
          have HT := Lib.hid (And.intro ht (And.intro hSh (And.intro hG hd)))
          have hcurr := hd.cur
          clear ht hSh hG hC hd
          go_wp2
          refine wp_region_tailR (R := (drawRel B z)) (by kernel_rfl) 9 (.known ?hx5_1_v0 :: .known ?hx5_1_v1 :: .known ?hx5_1_v2 :: .known ?hx5_1_v3 :: .known ?hx5_1_v4 :: .known ?hx5_1_v5 :: .such (BelJ 9) (fun _ _ _ _ h => h) :: .such (NumJ) (fun _ _ _ _ h => h) :: .known ?hx5_1_v8 :: []) rfl (by decide) (by kernel_rfl) (by kernel_rfl) ?hx5_1_s ?hx5_1_p
          case hx5_1_s =>
            intro vs
            refine ⟨fun w' hxw hj => ?_, fun w' hxw hj => ?_, fun w' hxw hj => ?_, fun w' hxw hj => ?_, fun w' hxw hj => ?_, fun w' hxw hj => ?_, fun w' hxw hj => ?_, fun w' hxw hj => ?_, fun w' hxw hj => ?_, trivial⟩
            · have hdw := hxw hcurr
              have hcw := hdw.cur
              have hsp := Drawn.cell hdw hsp (by dsimp only; omega)
              clear hj hxw
              go_simp
              try go_bits
              refine ⟨Drawn.start hcw, ?_⟩
              rfl
            · have hdw := hxw hcurr
              have hcw := hdw.cur
              have hsp := Drawn.cell hdw hsp (by dsimp only; omega)
              clear hj hxw
              go_simp
              try go_bits
              refine ⟨Drawn.start hcw, ?_⟩
              rfl
            · have hdw := hxw hcurr
              have hcw := hdw.cur
              have hsp := Drawn.cell hdw hsp (by dsimp only; omega)
              clear hj hxw
              go_simp
              try go_bits
              refine ⟨Drawn.start hcw, ?_⟩
              rfl
            · have hdw := hxw hcurr
              have hcw := hdw.cur
              have hsp := Drawn.cell hdw hsp (by dsimp only; omega)
              clear hj hxw
              go_simp
              try go_bits
              refine ⟨Drawn.start hcw, ?_⟩
              rfl
            · have hdw := hxw hcurr
              have hcw := hdw.cur
              have hsp := Drawn.cell hdw hsp (by dsimp only; omega)
              clear hj hxw
              go_simp
              try go_bits
              refine ⟨Drawn.start hcw, ?_⟩
              rfl
            · have hdw := hxw hcurr
              have hcw := hdw.cur
              have hsp := Drawn.cell hdw hsp (by dsimp only; omega)
              clear hj hxw
              go_simp
              try go_bits
              refine ⟨Drawn.start hcw, ?_⟩
              rfl
            · have hdw := hxw hcurr
              have hcw := hdw.cur
              have hsp := Drawn.cell hdw hsp (by dsimp only; omega)
              clear hj hxw
              go_simp
              try go_bits
              exact ⟨Drawn.start hcw, (spec_l1Below_any _ z _ _ hcw).mono (by rintro e w'' ⟨q, rfl, hq, -, hd'⟩; exact ⟨_, rfl, hd', q, by have := hq (by omega); omega, rfl⟩)⟩
            · have hdw := hxw hcurr
              have hcw := hdw.cur
              have hsp := Drawn.cell hdw hsp (by dsimp only; omega)
              have k6 : BelJ 9 (vs 6) w' := hj 6 (by kernel_rfl)
              apply BelJ.elim k6
              intro q hq hqv
              clear k6
              clear hj hxw
              go_simp
              try go_bits
              exact ⟨Drawn.start hcw, _, rfl⟩
            · have hdw := hxw hcurr
              have hcw := hdw.cur
              have hsp := Drawn.cell hdw hsp (by dsimp only; omega)
              clear hj hxw
              go_simp
              try go_bits
              refine ⟨Drawn.start hcw, ?_⟩
              rfl
          case' hx5_1_p =>
            intro vs w5 hx5 hk
            replace hx5 := hx5 hcurr
            have k6 : (BelJ 9) (vs 6) w5 := hk 6 _ rfl
            have k7 : (NumJ) (vs 7) w5 := hk 7 _ rfl
            clear hk
            replace hsp := Drawn.cell hx5 hsp (by dsimp only; omega)
            go_simp
          obtain ⟨x, hx⟩ := k7
          rw [hx]
          clear k6 hx
          have hil : i < T.length := by rw [HT.out.2.1.1]; exact hlti
          have ht5 := hx5.tab HT.out.1 hlt
          have hce := ht5.at i j hil (by rw [HT.out.2.1.2 i hlti]; exact hltj)
          have hfr := ht5.frozen i j hil
          have hts := ht5.set i j hil x
          have hds := (HT.out.2.2.2.trans hx5).store (p := ⟨gs i, j, none⟩) (by rw [← HT.out.2.2.1]; exact hrl.1) (.int .i64 x)
          rw [← HT.out.2.2.1] at hce hfr hts hds
          have HS := Lib.hid (And.intro hts (And.intro hds (HT.out.2.1.set i j x)))
          clear ht5 hts hds hsp hx5 hcurr
          go_wp2
          go_roundw
          case rel => exact ⟨j + 1, _, by omega, by go_num, HS.out.2.2, HS.out.1, HS.out.2.1⟩
          case measure => simp [intOf]; omega
        · go_wp2
          go_roundw
          case rel => exact ⟨i + 1, T, by omega, by go_num, hSh, ht, hd⟩
          case measure => simp [intOf]; omega
    · by_cases hn0 : n = 0
      · subst hn0
        have HT := Lib.hid (And.intro ht (And.intro hSh hd))
        clear ht hSh hd
        go_wp2
        go_ret
        exact ⟨.slice (some ⟨g, 0, none⟩) 0 cap, T, rfl, HT.out.1.reads HT.out.2.1.1.symm, HT.out.2.2.toExt HX.out.1 (by rw [← HX.out.2.1]; exact HX.out.2.2)⟩
      have hnp : 0 < n := by omega
      go_wp2_with fail
      with_reducible refine (spec_l1Once_any _ z _ _ hd.cur).mono ?_
      rintro e w4 ⟨b, rfl, hd2⟩
      replace ht := hd2.tab ht hlt
      replace hd := hd.trans hd2
      clear hd2
      cases b
      · skip
        go_wp2_with fail
        with_reducible refine (spec_l1Once_any _ z _ _ hd.cur).mono ?_
        rintro e w7 ⟨b2, rfl, hd2⟩
        replace ht := hd2.tab ht hlt
        replace hd := hd.trans hd2
        clear hd2
        cases b2
        · have HT := Lib.hid (And.intro ht (And.intro hSh hd))
          clear ht hSh hd
          go_wp2
          go_ret
          exact ⟨.slice (some ⟨g, 0, none⟩) n cap, _, rfl, HT.out.1.reads HT.out.2.1.1.symm, HT.out.2.2.toExt HX.out.1 (by rw [← HX.out.2.1]; exact HX.out.2.2)⟩
        · obtain ⟨TT, hTT⟩ : ∃ TT, TT = T := ⟨_, rfl⟩
          rw [← hTT] at ht hSh
          have hgl := ht.lt
          have hgc := ht.caps
          have hl0 : 0 < TT.length := by rw [hSh.1]; exact hnp
          have hrl := ht.rowlt 0 hl0
          have hro := ht.row 0 hl0
          have hrc := hro.caps
          have hsp := ht.spot 0 hl0
          have hfz : w7.frozen? ⟨g, 0, none⟩ = false := by
            obtain ⟨fs, hfo, -⟩ := ht.own
            exact hfo.frozen 0
          rw [hSh.2 0 hnp] at hsp hrc hro
          obtain ⟨r0, hr0⟩ : ∃ r, r = TT.getD 0 [] := ⟨_, rfl⟩
          have hrl0 : r0.length = n := by rw [hr0]; exact hSh.2 0 hnp
          rw [← hr0] at hro
          obtain ⟨G, hG⟩ : ∃ G, G = gs 0 := ⟨_, rfl⟩
          rw [← hG] at hsp hrl hro
          obtain ⟨Cc, hC⟩ : ∃ C, C = cs 0 := ⟨_, rfl⟩
          rw [← hC] at hsp hrc hro
          have hgG : G ≠ g := by rw [hG]; exact ht.out 0 hl0
          have hsz := hd.size
          have hu1 : (icells r0).length + 1 ≤ maxLen := by rw [icells_length, hrl0]; unfold maxLen; omega
          have hu2 : ((icells r0).length + 1) * 8 ≤ 140737488355328 := by rw [icells_length, hrl0]; omega
          have HT := Lib.hid (And.intro ht (And.intro hSh (And.intro hd (And.intro hro (And.intro hu1 (And.intro hu2 (And.intro hG hrl0)))))))
          clear ht hSh hd hro hu1 hu2 hG hC hrl0 hr0 hTT
          go_wp2_with (at_builtin; refine wpList_append_one rfl (.tmp 56) (.tmp 57) 26 rfl 3 _ _ Tryd.underlying26 infoInt rfl w1.heap.size _ (icells r0) rfl (HT.out.2.2.2.1.ext (Ext.alloc _ _)) _ _ rfl (by simp; rfl) rfl HT.out.2.2.2.2.1 HT.out.2.2.2.2.2.1 (cutW _ w1.heap.size) (cutW_size _ _ (by simp; omega)) (cutW_ext _ _ (by simp; omega)) ?_; intro v4 w8 hown4 hx4 hmv4; obtain ⟨g5, c5, rfl, hce8, hfz8, hrd8, hgb8⟩ := row_app HT.out.1 HT.out.2.1.1 hnp HT.out.2.2.2.2.2.2.2 HT.out.2.2.2.2.2.2.1 hsp hown4 hmv4; have H4 := Lib.hid (And.intro hrd8 hgb8); clear hown4 hx4 hmv4 hrd8 hgb8)
          go_ret
          exact ⟨.slice (some ⟨g, 0, none⟩) n cap, _, rfl, H4.out.1, (((HT.out.2.2.1.alloc (.cells #[.int .i64 1] 3)).own H4.out.2 hrl.1).store (p := ⟨g, 0, none⟩) hgl.1 _).toExt HX.out.1 (by rw [← HX.out.2.1]; exact HX.out.2.2)⟩
      · have hgl := ht.lt
        have hgc := ht.caps
        have hrl := ht.rowlt 0 (by rw [hSh.1]; omega)
        have hrc := (ht.row 0 (by rw [hSh.1]; omega)).caps
        have hsp := ht.spot 0 (by rw [hSh.1]; omega)
        rw [hSh.2 0 (by omega)] at hsp hrc
        obtain ⟨G, hG⟩ : ∃ G, G = gs 0 := ⟨_, rfl⟩
        rw [← hG] at hsp hrl
        obtain ⟨Cc, hC⟩ : ∃ C, C = cs 0 := ⟨_, rfl⟩
        rw [← hC] at hsp hrc
        have hzg : z < g := by omega
        have HT := Lib.hid (And.intro ht (And.intro hSh (And.intro hG hd)))
        have hcurr := hd.cur
        clear ht hSh hG hC hd
        go_wp2
        refine wp_region_tailR (R := (drawRel B z)) (by kernel_rfl) 7 (.known ?hx5_2_v0 :: .known ?hx5_2_v1 :: .known ?hx5_2_v2 :: .known ?hx5_2_v3 :: .such (LitI B z [10000, 10001, -10000] 3) (LitI.ok _ _) :: .such (IntIn [10000, 10001, -10000]) (fun _ _ _ _ h => h) :: .known ?hx5_2_v6 :: []) rfl (by decide) (by kernel_rfl) (by kernel_rfl) ?hx5_2_s ?hx5_2_p
        case hx5_2_s =>
          intro vs
          refine ⟨fun w' hxw hj => ?_, fun w' hxw hj => ?_, fun w' hxw hj => ?_, fun w' hxw hj => ?_, fun w' hxw hj => ?_, fun w' hxw hj => ?_, fun w' hxw hj => ?_, trivial⟩
          · have hdw := hxw hcurr
            have hcw := hdw.cur
            have hsp := Drawn.cell hdw hsp (by dsimp only; omega)
            clear hj hxw
            go_simp
            try go_bits
            refine ⟨Drawn.start hcw, ?_⟩
            rfl
          · have hdw := hxw hcurr
            have hcw := hdw.cur
            have hsp := Drawn.cell hdw hsp (by dsimp only; omega)
            clear hj hxw
            go_simp
            try go_bits
            refine ⟨Drawn.start hcw, ?_⟩
            rfl
          · have hdw := hxw hcurr
            have hcw := hdw.cur
            have hsp := Drawn.cell hdw hsp (by dsimp only; omega)
            clear hj hxw
            go_simp
            try go_bits
            refine ⟨Drawn.start hcw, ?_⟩
            rfl
          · have hdw := hxw hcurr
            have hcw := hdw.cur
            have hsp := Drawn.cell hdw hsp (by dsimp only; omega)
            clear hj hxw
            go_simp
            try go_bits
            refine ⟨Drawn.start hcw, ?_⟩
            rfl
          · have hdw := hxw hcurr
            have hcw := hdw.cur
            have hsp := Drawn.cell hdw hsp (by dsimp only; omega)
            clear hj hxw
            go_simp
            try go_bits
            exact LitI.new hcw rfl rfl (by omega)
          · have hdw := hxw hcurr
            have hcw := hdw.cur
            have hsp := Drawn.cell hdw hsp (by dsimp only; omega)
            have k4 : LitI B z [10000, 10001, -10000] 3 (vs 4) w' := hj 4 (by kernel_rfl)
            apply LitI.elim k4
            intro bb hbb hrd
            clear k4
            clear hj hxw
            go_simp
            try go_bits
            exact ⟨Drawn.start hcw, LitI.pick hcw (by decide) hrd⟩
          · have hdw := hxw hcurr
            have hcw := hdw.cur
            have hsp := Drawn.cell hdw hsp (by dsimp only; omega)
            clear hj hxw
            go_simp
            try go_bits
            refine ⟨Drawn.start hcw, ?_⟩
            rfl
        case' hx5_2_p =>
          intro vs w5 hx5 hk
          replace hx5 := hx5 hcurr
          have k4 : (LitI B z [10000, 10001, -10000] 3) (vs 4) w5 := hk 4 _ rfl
          have k5 : (IntIn [10000, 10001, -10000]) (vs 5) w5 := hk 5 _ rfl
          clear hk
          replace hsp := Drawn.cell hx5 hsp (by dsimp only; omega)
          go_simp
        obtain ⟨x, hxm, hx⟩ := k5
        rw [hx]
        clear k4 hx hxm
        have hil : 0 < T.length := by rw [HT.out.2.1.1]; omega
        have ht5 := hx5.tab HT.out.1 hlt
        have hce := ht5.at 0 0 hil (by rw [HT.out.2.1.2 0 (by omega)]; omega)
        have hfr := ht5.frozen 0 0 hil
        have ht := ht5.set 0 0 hil x
        have hd := (HT.out.2.2.2.trans hx5).store (p := ⟨gs 0, 0, none⟩) (by rw [← HT.out.2.2.1]; exact hrl.1) (.int .i64 x)
        have hSh := HT.out.2.1.set 0 0 x
        rw [← HT.out.2.2.1] at hce hfr ht hd
        clear ht5 hsp hx5 hcurr HT hrl hrc hgl hgc hzg
        go_wp2_with fail
        with_reducible refine (spec_l1Once_any _ z _ _ hd.cur).mono ?_
        rintro e w7 ⟨b2, rfl, hd2⟩
        replace ht := hd2.tab ht hlt
        replace hd := hd.trans hd2
        clear hd2
        cases b2
        · have HT := Lib.hid (And.intro ht (And.intro hSh hd))
          clear ht hSh hd
          go_wp2
          go_ret
          exact ⟨.slice (some ⟨g, 0, none⟩) n cap, _, rfl, HT.out.1.reads HT.out.2.1.1.symm, HT.out.2.2.toExt HX.out.1 (by rw [← HX.out.2.1]; exact HX.out.2.2)⟩
        · obtain ⟨TT, hTT⟩ : ∃ TT, TT = (setM T 0 0 x) := ⟨_, rfl⟩
          rw [← hTT] at ht hSh
          have hgl := ht.lt
          have hgc := ht.caps
          have hl0 : 0 < TT.length := by rw [hSh.1]; exact hnp
          have hrl := ht.rowlt 0 hl0
          have hro := ht.row 0 hl0
          have hrc := hro.caps
          have hsp := ht.spot 0 hl0
          have hfz : w7.frozen? ⟨g, 0, none⟩ = false := by
            obtain ⟨fs, hfo, -⟩ := ht.own
            exact hfo.frozen 0
          rw [hSh.2 0 hnp] at hsp hrc hro
          obtain ⟨r0, hr0⟩ : ∃ r, r = TT.getD 0 [] := ⟨_, rfl⟩
          have hrl0 : r0.length = n := by rw [hr0]; exact hSh.2 0 hnp
          rw [← hr0] at hro
          obtain ⟨G, hG⟩ : ∃ G, G = gs 0 := ⟨_, rfl⟩
          rw [← hG] at hsp hrl hro
          obtain ⟨Cc, hC⟩ : ∃ C, C = cs 0 := ⟨_, rfl⟩
          rw [← hC] at hsp hrc hro
          have hgG : G ≠ g := by rw [hG]; exact ht.out 0 hl0
          have hsz := hd.size
          have hu1 : (icells r0).length + 1 ≤ maxLen := by rw [icells_length, hrl0]; unfold maxLen; omega
          have hu2 : ((icells r0).length + 1) * 8 ≤ 140737488355328 := by rw [icells_length, hrl0]; omega
          have HT := Lib.hid (And.intro ht (And.intro hSh (And.intro hd (And.intro hro (And.intro hu1 (And.intro hu2 (And.intro hG hrl0)))))))
          clear ht hSh hd hro hu1 hu2 hG hC hrl0 hr0 hTT
          go_wp2_with (at_builtin; refine wpList_append_one rfl (.tmp 56) (.tmp 57) 26 rfl 3 _ _ Tryd.underlying26 infoInt rfl w1.heap.size _ (icells r0) rfl (HT.out.2.2.2.1.ext (Ext.alloc _ _)) _ _ rfl (by simp; rfl) rfl HT.out.2.2.2.2.1 HT.out.2.2.2.2.2.1 (cutW _ w1.heap.size) (cutW_size _ _ (by simp; omega)) (cutW_ext _ _ (by simp; omega)) ?_; intro v4 w8 hown4 hx4 hmv4; obtain ⟨g5, c5, rfl, hce8, hfz8, hrd8, hgb8⟩ := row_app HT.out.1 HT.out.2.1.1 hnp HT.out.2.2.2.2.2.2.2 HT.out.2.2.2.2.2.2.1 hsp hown4 hmv4; have H4 := Lib.hid (And.intro hrd8 hgb8); clear hown4 hx4 hmv4 hrd8 hgb8)
          go_ret
          exact ⟨.slice (some ⟨g, 0, none⟩) n cap, _, rfl, H4.out.1, (((HT.out.2.2.1.alloc (.cells #[.int .i64 1] 3)).own H4.out.2 hrl.1).store (p := ⟨g, 0, none⟩) hgl.1 _).toExt HX.out.1 (by rw [← HX.out.2.1]; exact HX.out.2.2)⟩
end Go.Proofs.YtdngkfedkgiioaaDoor

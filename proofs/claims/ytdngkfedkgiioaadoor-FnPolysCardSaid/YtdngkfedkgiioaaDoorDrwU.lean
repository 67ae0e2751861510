/- Contracts: tables drawn and bent, lists of numbers drawn, and the draws of the laws of matrices. -/
import Derived.Test.YtdngkfedkgiioaaDoorDrwT
namespace Go.Proofs.YtdngkfedkgiioaaDoor
open Go.RowKit Go.Cm Go.Mx

theorem TabD.drawn {a : World} {B' : Nat} {u : Value} {T : List (List Int)} (k : TabD a B' u T) {B z : Nat} {b : World} (h : Drawn B z a b) (hz : z < B') : TabD b B' u T := by
  obtain ⟨g, cap, gs, cs, hu, ht⟩ := k
  exact ⟨g, cap, gs, cs, hu, h.tab ht hz⟩
theorem TabD.ext {a b : World} {B' : Nat} {u : Value} {T : List (List Int)} (k : TabD a B' u T) (h : Ext a b) : TabD b B' u T := by
  obtain ⟨g, cap, gs, cs, hu, ht⟩ := k
  exact ⟨g, cap, gs, cs, hu, ht.ext h⟩
theorem TabD.reads {a : World} {B' : Nat} {u : Value} {T : List (List Int)} (k : TabD a B' u T) : ReadsRows a u T := by
  obtain ⟨g, cap, gs, cs, rfl, ht⟩ := k
  exact ht.reads rfl

set_option maxRecDepth 100000 in
set_option maxHeartbeats 4000000 in
theorem spec_l4Bent_any (B z : Nat) (w : World) (c : Cur B w z) :
    Calls Tryd.prog 45 #[.pointer (some ⟨z, 0, none⟩)] w fun e w' => ∃ u T, e = .returned u ∧ T.length ≤ 10 ∧ TabD w' w.heap.size u T ∧ Drawn B z w w' := by
  have hlt := c.lt
  go_enter Tryd.func45, Tryd.ntmps45
  go_wp2_with fail
  refine (spec_l4Draw_any B z 4 _ c (by omega) (by omega)).mono ?_
  rintro e w1 ⟨_, T, n, rfl, hn1, hn9, hSh, ⟨g, cap, gs, cs, rfl, ht⟩, hd⟩
  rw [hSh.1] at ht ⊢
  go_wp2_with fail
  with_reducible refine (spec_l1Below_any _ z _ _ hd.cur).mono ?_
  rintro e w2 ⟨q, rfl, -, -, hd2⟩
  replace ht := hd2.tab ht hlt
  replace hd := hd.trans hd2
  clear hd2
  have hgl := ht.lt
  have hgc := ht.caps
  by_cases h0 : q = 0
  · have e0 : ((q : Int) == 0) = true := by simp [h0]
    clear h0
    have hrl := ht.rowlt 0 (by rw [hSh.1]; omega)
    have hrc := (ht.row 0 (by rw [hSh.1]; omega)).caps
    have hsp := ht.spot 0 (by rw [hSh.1]; omega)
    rw [hSh.2 0 (by omega)] at hsp hrc
    obtain ⟨G, hG⟩ : ∃ G, G = gs 0 := ⟨_, rfl⟩
    rw [← hG] at hsp hrl
    obtain ⟨Cc, hC⟩ : ∃ C, C = cs 0 := ⟨_, rfl⟩
    rw [← hC] at hsp hrc
    have hzg : z < g := by omega
    have HT := Lib.hid (And.intro ht (And.intro hSh (And.intro hG hd)))
    have hcurr := hd.cur
    have hn0 : 0 < n := by omega
    clear ht hSh hG hC hd
    go_wp2
    refine wp_region_tailR (R := (drawRel B z)) (by kernel_rfl) 7 (.known ?hx5_8_v0 :: .known ?hx5_8_v1 :: .known ?hx5_8_v2 :: .known ?hx5_8_v3 :: .such (LitI B z [-1, 1000000, 1000001, 9] 4) (LitI.ok _ _) :: .such (IntIn [-1, 1000000, 1000001, 9]) (fun _ _ _ _ h => h) :: .known ?hx5_8_v6 :: []) rfl (by decide) (by kernel_rfl) (by kernel_rfl) ?hx5_8_s ?hx5_8_p
    case hx5_8_s =>
      intro vs
      refine ⟨fun w' hxw hj => ?_, fun w' hxw hj => ?_, fun w' hxw hj => ?_, fun w' hxw hj => ?_, fun w' hxw hj => ?_, fun w' hxw hj => ?_, fun w' hxw hj => ?_, trivial⟩
      · have hdw := hxw hcurr
        have hcw := hdw.cur
        have hsp := Drawn.cell hdw hsp (by dsimp only; omega)
        clear hj hxw
        go_simp
        try go_bits
        refine ⟨Drawn.start hcw, ?_⟩
        rfl
      · have hdw := hxw hcurr
        have hcw := hdw.cur
        have hsp := Drawn.cell hdw hsp (by dsimp only; omega)
        clear hj hxw
        go_simp
        try go_bits
        refine ⟨Drawn.start hcw, ?_⟩
        rfl
      · have hdw := hxw hcurr
        have hcw := hdw.cur
        have hsp := Drawn.cell hdw hsp (by dsimp only; omega)
        clear hj hxw
        go_simp
        try go_bits
        refine ⟨Drawn.start hcw, ?_⟩
        rfl
      · have hdw := hxw hcurr
        have hcw := hdw.cur
        have hsp := Drawn.cell hdw hsp (by dsimp only; omega)
        clear hj hxw
        go_simp
        try go_bits
        refine ⟨Drawn.start hcw, ?_⟩
        rfl
      · have hdw := hxw hcurr
        have hcw := hdw.cur
        have hsp := Drawn.cell hdw hsp (by dsimp only; omega)
        clear hj hxw
        go_simp
        try go_bits
        exact LitI.new hcw rfl rfl (by omega)
      · have hdw := hxw hcurr
        have hcw := hdw.cur
        have hsp := Drawn.cell hdw hsp (by dsimp only; omega)
        have k4 : LitI B z [-1, 1000000, 1000001, 9] 4 (vs 4) w' := hj 4 (by kernel_rfl)
        apply LitI.elim k4
        intro bb hbb hrd
        clear k4
        clear hj hxw
        go_simp
        try go_bits
        exact ⟨Drawn.start hcw, LitI.pick hcw (by decide) hrd⟩
      · have hdw := hxw hcurr
        have hcw := hdw.cur
        have hsp := Drawn.cell hdw hsp (by dsimp only; omega)
        clear hj hxw
        go_simp
        try go_bits
        refine ⟨Drawn.start hcw, ?_⟩
        rfl
    case' hx5_8_p =>
      intro vs w5 hx5 hk
      replace hx5 := hx5 hcurr
      have k4 : (LitI B z [-1, 1000000, 1000001, 9] 4) (vs 4) w5 := hk 4 _ rfl
      have k5 : (IntIn [-1, 1000000, 1000001, 9]) (vs 5) w5 := hk 5 _ rfl
      clear hk
      replace hsp := Drawn.cell hx5 hsp (by dsimp only; omega)
      go_simp
    obtain ⟨x, hxm, hx⟩ := k5
    rw [hx]
    clear k4 hx hxm
    have hil : 0 < T.length := by rw [HT.out.2.1.1]; omega
    have ht5 := hx5.tab HT.out.1 hlt
    have hce := ht5.at 0 0 hil (by rw [HT.out.2.1.2 0 (by omega)]; omega)
    have hfr := ht5.frozen 0 0 hil
    have hts := ht5.set 0 0 hil x
    have hds := (HT.out.2.2.2.trans hx5).store (p := ⟨gs 0, 0, none⟩) (by rw [← HT.out.2.2.1]; exact hrl.1) (.int .i64 x)
    rw [← HT.out.2.2.1] at hce hfr hts hds
    have HS := Lib.hid (And.intro hts (And.intro hds (HT.out.2.1.set 0 0 x)))
    clear ht5 hts hds hsp hx5 hcurr
    go_wp2
    go_ret
    exact ⟨.slice (some ⟨g, 0, none⟩) n cap, setM T 0 0 x, rfl, by rw [HS.out.2.2.1]; omega, ⟨g, cap, gs, cs, by rw [HS.out.2.2.1], by rw [HS.out.2.2.1]; exact HS.out.1⟩, HS.out.2.1⟩
  have e0 : ((q : Int) == 0) = false := by simp; omega
  by_cases h1 : q = 1
  · have e1 : ((q : Int) == 1) = true := by simp [h1]
    clear h0 h1
    have hfull := ht.full hSh.1.symm
    have hgsl := ht.rowlt
    have hsz := hd.size
    have hv1 : (rowsV gs cs T).length + 1 ≤ maxLen := by rw [rowsV_length, hSh.1]; unfold maxLen; omega
    have hv2 : ((rowsV gs cs T).length + 1) * 24 ≤ 140737488355328 := by rw [rowsV_length, hSh.1]; omega
    have hz : Own (w2.alloc (.cells #[.int .i64 1] 3)) w2.heap.size 3 (.slice (some ⟨w2.heap.size, 0, none⟩) 1 1) (icells [1]) := Own.lit w2 3 [.int .i64 1] (by unfold maxLen; simp)
    have HT := Lib.hid (And.intro hfull (And.intro hgsl (And.intro ht (And.intro hv1 (And.intro hv2 (And.intro hz (And.intro hd hSh)))))))
    clear hfull hgsl ht hv1 hv2 hz hd hSh
    go_wp2_with (at_builtin; refine wpList_append_one rfl (.tmp 19) (.tmp 21) 24 rfl 26 _ _ Tryd.underlying24 infoRow rfl w.heap.size _ (rowsV gs cs T) rfl ((HT.out.1.ext (Ext.alloc _ _)).ext (Ext.alloc _ _)) _ _ rfl (by simp; rfl) rfl HT.out.2.2.2.1 HT.out.2.2.2.2.1 (cutW _ w.heap.size) (cutW_size _ _ (by simp; omega)) (cutW_ext _ _ (by simp; omega)) ?_; intro v4 w4 hown4 hx4 hmv4; have H4 := Lib.hid (And.intro hown4 hmv4); clear hown4 hx4 hmv4)
    have ht3 := (HT.out.2.2.1.ext (Ext.alloc w2 (.cells #[.int .i64 1] 3))).ext (Ext.alloc _ (.cells #[.slice (some ⟨w2.heap.size, 0, none⟩) 1 1] 26))
    obtain ⟨g', cap', gs', cs', hv', ht'⟩ := ht3.push (r := [1]) (gr := w2.heap.size) (cr := 1) HT.out.2.2.2.2.2.2.2.1.symm ((HT.out.2.2.2.2.2.1.mono hsz).ext (Ext.alloc _ _)) (by omega) (fun i hi => by have := HT.out.2.1 i hi; omega) H4.out.1 H4.out.2
    have hde := ((HT.out.2.2.2.2.2.2.1.alloc (.cells #[.int .i64 1] 3)).alloc (.cells #[.slice (some ⟨w2.heap.size, 0, none⟩) 1 1] 26)).own H4.out.2.1 hgl.1
    have hlen : (T ++ [[1]]).length = n + 1 := by rw [List.length_append, HT.out.2.2.2.2.2.2.2.1]; rfl
    subst hv'
    have HF := Lib.hid (And.intro ht' (And.intro hde hlen))
    clear ht3 ht' hde hlen
    go_wp2
    go_ret
    exact ⟨.slice (some ⟨g', 0, none⟩) (n + 1) cap', T ++ [[1]], rfl, by rw [HF.out.2.2]; omega, ⟨g', cap', gs', cs', by rw [HF.out.2.2], by rw [HF.out.2.2]; exact HF.out.1⟩, HF.out.2.1⟩
  · have e1 : ((q : Int) == 1) = false := by simp; omega
    clear h0 h1
    have HT := Lib.hid (And.intro ht (And.intro hSh hd))
    clear ht hSh hd
    go_wp2
    go_ret
    exact ⟨.slice (some ⟨g, 0, none⟩) n cap, T, rfl, by rw [HT.out.2.1.1]; omega, ⟨g, cap, gs, cs, by rw [HT.out.2.1.1], by rw [HT.out.2.1.1]; exact HT.out.1⟩, HT.out.2.2⟩

set_option maxRecDepth 100000 in
set_option maxHeartbeats 4000000 in
theorem spec_l7Draw_any (B z : Nat) (w : World) (c : Cur B w z) :
    Calls Tryd.prog 57 #[.pointer (some ⟨z, 0, none⟩)] w fun e w' => ∃ g cp P, e = .returned (.slice (some ⟨g, 0, none⟩) P.length cp) ∧ (P.length ≤ 5 ∧ InI64 P) ∧ Own w' w.heap.size 3 (.slice (some ⟨g, 0, none⟩) P.length cp) (icells P) ∧ Drawn B z w w' := by
  have hlt := c.lt
  have hd := (Drawn.start c).alloc (.cells #[] 3)
  have ho : Own (w.alloc (.cells #[] 3)) w.heap.size 3 (.slice (some ⟨w.heap.size, 0, none⟩) 0 0) (icells []) := Own.lit w 3 [] (by simp)
  go_enter Tryd.func57, Tryd.ntmps57
  go_wp2_with fail
  with_reducible refine (spec_l1Below_any _ z _ _ hd.cur).mono ?_
  rintro e w1 ⟨y, rfl, hy, -, hd2⟩
  have hy : y < 5 := by have := hy (by omega); omega
  replace ho := hd2.row ho (by omega)
  replace hd := hd.trans hd2
  clear hd2
  go_wp2
  go_loopw [3, 4] (fun v j wr => ∃ (k g cp : Nat) (P : List Int), v = .slice (some ⟨g, 0, none⟩) P.length cp ∧ j = .int .i64 k ∧ P.length + k ≤ 4 ∧ InI64 P ∧ Own wr w.heap.size 3 (.slice (some ⟨g, 0, none⟩) P.length cp) (icells P) ∧ Drawn B z w wr) (fun _ j _ => (intOf j).toNat)
  case atStart => exact ⟨y, w.heap.size, 0, [], rfl, rfl, by simp; omega, fun x hx => by simp at hx, ho, hd⟩
  case round =>
    clear ho hd
    obtain ⟨k, g, cp, P, rfl, rfl, hk, hP, ho, hd⟩ := hrel
    cases k with
    | zero =>
      have hPl : P.length ≤ 4 := by omega
      clear hk
      go_wp2_with fail
      with_reducible refine (spec_l1Once_any _ z _ _ hd.cur).mono ?_
      rintro e w2 ⟨b, rfl, hd2⟩
      have hgl := ho.lt
      replace ho := hd2.row ho (by omega)
      replace hd := hd.trans hd2
      clear hd2 hgl
      cases b
      · go_wp2
        go_ret
        exact ⟨g, cp, P, rfl, ⟨by omega, hP⟩, ho, hd⟩
      · go_wp2_with fail
        refine (pickInt_lit (cs := #[.int .i64 1000000, .int .i64 (-1000001), .int .i64 0]) hd.cur (l := [1000000, -1000001, 0]) rfl (by omega) (by decide) (by omega) (by omega)).mono ?_
        rintro e w3 ⟨x, rfl, hxm, hd2⟩
        have hx64 : -9223372036854775808 ≤ x ∧ x ≤ 9223372036854775807 := by
          simp at hxm
          omega
        have hgl := ho.lt
        replace ho := hd2.row ho (by omega)
        replace hd := hd.trans hd2
        have hsz := hd.size
        have hu1 : (icells P).length + 1 ≤ maxLen := by rw [icells_length]; unfold maxLen; omega
        have hu2 : ((icells P).length + 1) * 8 ≤ 140737488355328 := by rw [icells_length]; omega
        have HJ := Lib.hid (And.intro ho (And.intro hu1 (And.intro hu2 (And.intro hd (And.intro hP hx64)))))
        clear ho hu1 hu2 hd hP hxm hx64 hd2
        go_wp2_with (at_builtin; refine wpList_append_one rfl (.tmp 20) (.tmp 24) 26 rfl 3 _ _ Tryd.underlying26 infoInt rfl w.heap.size _ (icells P) rfl (HJ.out.1.ext (Ext.alloc _ _)) _ _ rfl (by simp; rfl) rfl HJ.out.2.1 HJ.out.2.2.1 (cutW _ w.heap.size) (cutW_size _ _ (by simp; omega)) (cutW_ext _ _ (by simp; omega)) ?_; intro v4 w4 hown4 hx4 hmv4; have H4 := Lib.hid (And.intro hown4 hmv4); clear hown4 hx4 hmv4)
        have ho4 := H4.out.1
        rw [icells_snoc] at ho4
        have hde := (HJ.out.2.2.2.1.alloc (.cells #[.int .i64 x] 3)).own H4.out.2.1 hgl.1
        obtain ⟨g5, c5, hv5⟩ : ∃ g5 c5, v4 = .slice (some ⟨g5, 0, none⟩) (P ++ [x]).length c5 := by
          rcases ho4.shape with ⟨_, hn⟩ | ⟨g5, c5, hv5, hg5, _⟩
          · have := congrArg List.length hn
            rw [icells_length] at this
            simp at this
          · rw [icells_length] at hv5
            exact ⟨g5, c5, hv5⟩
        rw [hv5] at ho4
        subst hv5
        have HF := Lib.hid (And.intro ho4 hde)
        clear ho4 hde
        go_wp2
        go_ret
        exact ⟨g5, c5, P ++ [x], rfl, ⟨by rw [List.length_append]; show P.length + 1 ≤ 5; omega, fun a ha => by
          rcases List.mem_append.1 ha with ha | ha
          · exact HJ.out.2.2.2.2.1 a ha
          · rw [List.mem_singleton.1 ha]; exact HJ.out.2.2.2.2.2⟩, HF.out.1, HF.out.2⟩
    | succ k =>
      go_wp2_with fail
      with_reducible refine (spec_l1Below_any _ z _ _ hd.cur).mono ?_
      rintro e w2 ⟨q, rfl, hq, -, hd2⟩
      have hq : q < 9 := by have := hq (by omega); omega
      have hgl := ho.lt
      replace ho := hd2.row ho (by omega)
      replace hd := hd.trans hd2
      have hsz := hd.size
      have hu1 : (icells P).length + 1 ≤ maxLen := by rw [icells_length]; unfold maxLen; omega
      have hu2 : ((icells P).length + 1) * 8 ≤ 140737488355328 := by rw [icells_length]; omega
      have HJ := Lib.hid (And.intro ho (And.intro hu1 (And.intro hu2 (And.intro hd hP))))
      clear ho hu1 hu2 hd hP hd2
      go_wp2_with (at_builtin; refine wpList_append_one rfl (.tmp 12) (.tmp 16) 26 rfl 3 _ _ Tryd.underlying26 infoInt rfl w.heap.size _ (icells P) rfl (HJ.out.1.ext (Ext.alloc _ _)) _ _ rfl (by simp; rfl) rfl HJ.out.2.1 HJ.out.2.2.1 (cutW _ w.heap.size) (cutW_size _ _ (by simp; omega)) (cutW_ext _ _ (by simp; omega)) ?_; intro v4 w4 hown4 hx4 hmv4; have H4 := Lib.hid (And.intro hown4 hmv4); clear hown4 hx4 hmv4)
      have ho4 := H4.out.1
      rw [icells_snoc] at ho4
      have hde := (HJ.out.2.2.2.1.alloc (.cells #[.int .i64 ((q : Int) - 4)] 3)).own H4.out.2.1 hgl.1
      obtain ⟨g5, c5, hv5⟩ : ∃ g5 c5, v4 = .slice (some ⟨g5, 0, none⟩) (P ++ [((q : Int) - 4)]).length c5 := by
        rcases ho4.shape with ⟨_, hn⟩ | ⟨g5, c5, hv5, hg5, _⟩
        · have := congrArg List.length hn
          rw [icells_length] at this
          simp at this
        · rw [icells_length] at hv5
          exact ⟨g5, c5, hv5⟩
      rw [hv5] at ho4
      subst hv5
      have HF := Lib.hid (And.intro ho4 hde)
      clear ho4 hde
      have hl5 : (P ++ [(q : Int) - 4]).length = P.length + 1 := by rw [List.length_append]; rfl
      go_roundw
      case rel =>
        exact ⟨k, g5, c5, P ++ [(q : Int) - 4], rfl, by go_num, by rw [hl5]; omega, fun a ha => by
          rcases List.mem_append.1 ha with ha | ha
          · exact HJ.out.2.2.2.2 a ha
          · rw [List.mem_singleton.1 ha]; omega, HF.out.1, HF.out.2⟩
      case measure => simp [intOf]
end Go.Proofs.YtdngkfedkgiioaaDoor

/- Contracts: the arcs of a graph, by the program and by the reference. -/
import Derived.Test.YtihidaeecfbngaaSumA
namespace Go.Proofs.Ytihidaeecfbngaa
open Go.RowKit Go.Mx

set_option maxRecDepth 100000 in
set_option maxHeartbeats 4000000 in
theorem impl_arcs_any (v : Value) (m : List (List Int)) (w : World) (h : ReadsRows w v m) (hm : isMat m = true) (hs : sumM m ≤ 60) :
    Calls Try.prog 103 #[v] w fun e w' => ∃ u, e = .returned u ∧ ResM w' w.heap.size u (arcsL m) ∧ Ext w w' := by
  have hM := isMat_yes hm
  have h9 := hM.le
  obtain ⟨a, c, rfl⟩ := h.slice
  obtain ⟨-, hlc, hc⟩ := h.len
  have hall : arcsAt m m.length 0 0 = arcsL m := arcsAt_zero m _
  have hrow' := fun i => arcsAt_row m i
  obtain ⟨n, hn⟩ : ∃ n, n = m.length := ⟨_, rfl⟩
  rw [← hn] at h hlc hM h9 hall hrow' ⊢
  have HM := Lib.hid (And.intro h (And.intro hn (And.intro hM (And.intro hs (And.intro hall hrow')))))
  have hB0 : MTab (w.alloc (.cells #[] 22)) w.heap.size 22 3 w.heap.size 0 0 (fun _ => 0) (fun _ => 0) (arcsAt m 0 0 0) := MTab.nil (Own.lit w 22 [] (by simp)) _ _
  clear h hn hM hm hs hall hrow'
  go_enter Try.func103, Try.ntmps103
  go_wp2
  go_loopw [3, 11] (fun v q wr => ∃ (k L g cap : Nat) (gs cs : Nat → Nat), k ≤ n ∧ q = .int .i64 k ∧ v = .slice (some ⟨g, 0, none⟩) L cap ∧ L = (arcsAt m k 0 0).length ∧ MTab wr w.heap.size 22 3 g L cap gs cs (arcsAt m k 0 0) ∧ Ext w wr) (fun _ q _ => n - (intOf q).toNat)
  case atStart => exact ⟨0, 0, _, _, _, _, by omega, rfl, rfl, rfl, hB0, Ext.alloc _ _⟩
  case round =>
    clear hB0
    obtain ⟨i, L, g, cap, gs, cs, hi, rfl, rfl, hLl, ht, hx⟩ := hrel
    by_cases hlti : i < n
    · obtain ⟨bk, o, a', c', rfl, hcell, hrow⟩ := HM.out.1.at i (by rw [← HM.out.2.1]; exact hlti)
      have hlr := HM.out.2.2.1.row i hlti
      obtain ⟨b', o', rfl, -⟩ := hrow.at 0 (by rw [hlr]; omega)
      rw [hlr] at hcell hrow
      have hlc2 := hrow.len.2.1
      have hcell := hx.cell_some hcell
      have HR := Lib.hid (And.intro hrow hlr)
      have HT := Lib.hid (And.intro ht hLl)
      clear hrow hlr ht hLl
      go_wp2
      clear hcell
      go_loopw [3, 18] (fun v q wr => ∃ (k L g cap : Nat) (gs cs : Nat → Nat), k ≤ n ∧ q = .int .i64 k ∧ v = .slice (some ⟨g, 0, none⟩) L cap ∧ L = (arcsAt m i k 0).length ∧ MTab wr w.heap.size 22 3 g L cap gs cs (arcsAt m i k 0) ∧ Ext w wr) (fun _ q _ => n - (intOf q).toNat)
      case atStart => exact ⟨0, L, _, _, _, _, by omega, rfl, rfl, HT.out.2, HT.out.1, hx⟩
      case round =>
        clear hx HT
        obtain ⟨j, L, g, cap, gs, cs, hj, rfl, rfl, hLl, ht, hx⟩ := hrel
        by_cases hltj : j < n
        · obtain ⟨_, _, e, hcell⟩ := (HR.out.1.ext hx).at j (by rw [HR.out.2]; exact hltj)
          cases e
          obtain ⟨X, hX⟩ : ∃ X : Nat, (m.getD i []).getD j 0 = (X : Int) := ⟨((m.getD i []).getD j 0).toNat, by have := HM.out.2.2.1.low i j; omega⟩
          rw [hX] at hcell
          have hX1 := HM.out.2.2.1.high i j
          rw [hX] at hX1
          have HX := Lib.hid hX
          have HT := Lib.hid (And.intro ht hLl)
          clear hX ht hLl
          go_wp2
          clear hcell
          go_loopw [3, 24] (fun v q wr => ∃ (k L g cap : Nat) (gs cs : Nat → Nat), k ≤ X ∧ q = .int .i64 k ∧ v = .slice (some ⟨g, 0, none⟩) L cap ∧ L = (arcsAt m i j k).length ∧ MTab wr w.heap.size 22 3 g L cap gs cs (arcsAt m i j k) ∧ Ext w wr) (fun _ q _ => X - (intOf q).toNat)
          case atStart => exact ⟨0, L, _, _, _, _, by omega, rfl, rfl, HT.out.2, HT.out.1, hx⟩
          case round =>
            clear hx HT
            obtain ⟨k, L, g, cap, gs, cs, hk, rfl, rfl, hLl, ht, hx⟩ := hrel
            by_cases hltk : k < X
            · have hkX : (k : Int) ≤ (X : Int) := by omega
              have hfull := ht.full hLl
              have hgl := ht.lt
              have hgsl := ht.rowlt
              have hlb := HM.out.2.2.1.arcsAt_length (i := i) (j := j) (k := k) hlti hltj (by rw [HX.out]; omega)
              have hv1 : (rowsV gs cs (arcsAt m i j k)).length + 1 ≤ maxLen := by rw [rowsV_length]; unfold maxLen; have := HM.out.2.2.2.1; omega
              have hv2 : ((rowsV gs cs (arcsAt m i j k)).length + 1) * 24 ≤ 140737488355328 := by rw [rowsV_length]; have := HM.out.2.2.2.1; omega
              have HS := Lib.hid (And.intro hfull (And.intro hgl (And.intro hgsl (And.intro ht (And.intro hv1 (And.intro hv2 hLl))))))
              clear hfull hgl hgsl ht hv1 hv2 hLl hlb
              go_wp2_with (at_builtin; refine wpList_append_one rfl (.tmp 26) (.tmp 30) 30 rfl 22 _ _ Try.underlying30 infoRow rfl w.heap.size _ (rowsV gs cs (arcsAt m i j k)) rfl ((HS.out.1.ext (Ext.alloc _ _)).ext (Ext.alloc _ _)) _ _ rfl (by simp; rfl) rfl HS.out.2.2.2.2.1 HS.out.2.2.2.2.2.1 w rfl ((hx.trans (Ext.alloc _ _)).trans (Ext.alloc _ _)) ?_; intro v4 w4 hown4 hx4 hmv4; have H4 := Lib.hid (And.intro hown4 (And.intro hx4 hmv4)); clear hown4 hx4 hmv4)
              go_roundw
              case rel =>
                have ht3 := (HS.out.2.2.2.1.ext (Ext.alloc wr (.cells #[.int .i64 i, .int .i64 j] 3))).ext (Ext.alloc _ (.cells #[.slice (some ⟨wr.heap.size, 0, none⟩) 2 2] 22))
                have hlit : Own (wr.alloc (.cells #[.int .i64 i, .int .i64 j] 3)) wr.heap.size 3 (.slice (some ⟨wr.heap.size, 0, none⟩) 2 2) (icells [(i : Int), (j : Int)]) := Own.lit wr 3 [.int .i64 i, .int .i64 j] (by simp [maxLen])
                obtain ⟨g', cap', gs', cs', hv', ht'⟩ := ht3.push (r := [(i : Int), (j : Int)]) (gr := wr.heap.size) (cr := 2) HS.out.2.2.2.2.2.2 ((hlit.mono hx.size).ext (Ext.alloc _ _)) (by have := HS.out.2.1; omega) (fun q hq => by have := HS.out.2.2.1 q hq; omega) H4.out.1 H4.out.2.2
                rw [← arcsAt_succ m i j k] at ht'
                exact ⟨k + 1, L + 1, g', cap', gs', cs', by omega, by go_num, hv', by rw [arcsAt_succ, List.length_append, ← HS.out.2.2.2.2.2.2, List.length_singleton], ht', H4.out.2.1⟩
              case measure => simp [intOf]; omega
            · have hkX : k = X := by omega
              have e := arcsAt_col m i j k (by rw [HX.out]; omega)
              rw [e] at ht hLl
              have HT := Lib.hid (And.intro ht hLl)
              clear e ht hLl
              go_wp2
              go_roundw
              case rel => exact ⟨j + 1, L, _, _, _, _, by omega, by go_num, rfl, HT.out.2, HT.out.1, hx⟩
              case measure => simp [intOf]; omega
        · have hjn : j = n := by omega
          rw [hjn, HM.out.2.2.2.2.2 i] at ht hLl
          have HT := Lib.hid (And.intro ht hLl)
          clear ht hLl
          subst hjn
          go_wp2
          go_roundw
          case rel => exact ⟨i + 1, L, _, _, _, _, by omega, by go_num, rfl, HT.out.2, HT.out.1, hx⟩
          case measure => simp [intOf]; omega
    · have hin : i = n := by omega
      rw [hin, HM.out.2.2.2.2.1] at ht hLl
      have HT := Lib.hid (And.intro ht hLl)
      clear ht hLl
      subst hin
      go_wp2
      go_ret
      exact ⟨_, rfl, .inr ⟨g, cap, gs, cs, by rw [← HT.out.2]; rfl, by rw [← HT.out.2]; exact HT.out.1⟩, hx⟩

set_option maxRecDepth 100000 in
set_option maxHeartbeats 4000000 in
theorem spec_l5Arcs_any (v : Value) (m : List (List Int)) (w : World) (h : ReadsRows w v m) (hm : isMat m = true) (hs : sumM m ≤ 60) :
    Calls Try.prog 101 #[v] w fun e w' => ∃ u, e = .returned u ∧ ResM w' w.heap.size u (arcsL m) ∧ Ext w w' := by
  have hM := isMat_yes hm
  have h9 := hM.le
  obtain ⟨a, c, rfl⟩ := h.slice
  obtain ⟨-, hlc, hc⟩ := h.len
  have hall : arcsAt m m.length 0 0 = arcsL m := arcsAt_zero m _
  have hrow' := fun i => arcsAt_row m i
  obtain ⟨n, hn⟩ : ∃ n, n = m.length := ⟨_, rfl⟩
  rw [← hn] at h hlc hM h9 hall hrow' ⊢
  have HM := Lib.hid (And.intro h (And.intro hn (And.intro hM (And.intro hs (And.intro hall hrow')))))
  have hB0 : MTab (w.alloc (.cells #[] 22)) w.heap.size 22 3 w.heap.size 0 0 (fun _ => 0) (fun _ => 0) (arcsAt m 0 0 0) := MTab.nil (Own.lit w 22 [] (by simp)) _ _
  clear h hn hM hm hs hall hrow'
  go_enter Try.func101, Try.ntmps101
  go_wp2
  go_loopw [3, 4] (fun v q wr => ∃ (k L g cap : Nat) (gs cs : Nat → Nat), k ≤ n ∧ q = .int .i64 k ∧ v = .slice (some ⟨g, 0, none⟩) L cap ∧ L = (arcsAt m k 0 0).length ∧ MTab wr w.heap.size 22 3 g L cap gs cs (arcsAt m k 0 0) ∧ Ext w wr) (fun _ q _ => n - (intOf q).toNat)
  case atStart => exact ⟨0, 0, _, _, _, _, by omega, rfl, rfl, rfl, hB0, Ext.alloc _ _⟩
  case round =>
    clear hB0
    obtain ⟨i, L, g, cap, gs, cs, hi, rfl, rfl, hLl, ht, hx⟩ := hrel
    by_cases hlti : i < n
    · obtain ⟨bk, o, a', c', rfl, hcell, hrow⟩ := HM.out.1.at i (by rw [← HM.out.2.1]; exact hlti)
      have hlr := HM.out.2.2.1.row i hlti
      obtain ⟨b', o', rfl, -⟩ := hrow.at 0 (by rw [hlr]; omega)
      rw [hlr] at hcell hrow
      have hlc2 := hrow.len.2.1
      have HR := Lib.hid (And.intro hrow (And.intro hlr hcell))
      have HT := Lib.hid (And.intro ht hLl)
      clear hrow hlr ht hLl hcell
      go_wp2
      go_loopw [3, 5] (fun v q wr => ∃ (k L g cap : Nat) (gs cs : Nat → Nat), k ≤ n ∧ q = .int .i64 k ∧ v = .slice (some ⟨g, 0, none⟩) L cap ∧ L = (arcsAt m i k 0).length ∧ MTab wr w.heap.size 22 3 g L cap gs cs (arcsAt m i k 0) ∧ Ext w wr) (fun _ q _ => n - (intOf q).toNat)
      case atStart => exact ⟨0, L, _, _, _, _, by omega, rfl, rfl, HT.out.2, HT.out.1, hx⟩
      case round =>
        clear hx HT
        obtain ⟨j, L, g, cap, gs, cs, hj, rfl, rfl, hLl, ht, hx⟩ := hrel
        by_cases hltj : j < n
        · obtain ⟨_, _, e, hcell⟩ := HR.out.1.at j (by rw [HR.out.2.1]; exact hltj)
          cases e
          obtain ⟨X, hX⟩ : ∃ X : Nat, (m.getD i []).getD j 0 = (X : Int) := ⟨((m.getD i []).getD j 0).toNat, by have := HM.out.2.2.1.low i j; omega⟩
          rw [hX] at hcell
          have hX1 := HM.out.2.2.1.high i j
          rw [hX] at hX1
          have HX := Lib.hid hX
          have HC := Lib.hid hcell
          have HT := Lib.hid (And.intro ht hLl)
          clear hX ht hLl hcell
          go_wp2
          go_loopw [3, 6] (fun v q wr => ∃ (k L g cap : Nat) (gs cs : Nat → Nat), k ≤ X ∧ q = .int .i64 k ∧ v = .slice (some ⟨g, 0, none⟩) L cap ∧ L = (arcsAt m i j k).length ∧ MTab wr w.heap.size 22 3 g L cap gs cs (arcsAt m i j k) ∧ Ext w wr) (fun _ q _ => X - (intOf q).toNat)
          case atStart => exact ⟨0, L, _, _, _, _, by omega, rfl, rfl, HT.out.2, HT.out.1, hx⟩
          case round =>
            clear hx HT
            obtain ⟨k, L, g, cap, gs, cs, hk, rfl, rfl, hLl, ht, hx⟩ := hrel
            have hcA := hx.cell_some HR.out.2.2
            have hcB := hx.cell_some HC.out
            by_cases hltk : k < X
            · have hkX : (k : Int) ≤ (X : Int) := by omega
              have hfull := ht.full hLl
              have hgl := ht.lt
              have hgsl := ht.rowlt
              have hlb := HM.out.2.2.1.arcsAt_length (i := i) (j := j) (k := k) hlti hltj (by rw [HX.out]; omega)
              have hv1 : (rowsV gs cs (arcsAt m i j k)).length + 1 ≤ maxLen := by rw [rowsV_length]; unfold maxLen; have := HM.out.2.2.2.1; omega
              have hv2 : ((rowsV gs cs (arcsAt m i j k)).length + 1) * 24 ≤ 140737488355328 := by rw [rowsV_length]; have := HM.out.2.2.2.1; omega
              have HS := Lib.hid (And.intro hfull (And.intro hgl (And.intro hgsl (And.intro ht (And.intro hv1 (And.intro hv2 hLl))))))
              clear hfull hgl hgsl ht hv1 hv2 hLl hlb
              go_wp2_with (at_builtin; refine wpList_append_one rfl (.tmp 31) (.tmp 35) 30 rfl 22 _ _ Try.underlying30 infoRow rfl w.heap.size _ (rowsV gs cs (arcsAt m i j k)) rfl ((HS.out.1.ext (Ext.alloc _ _)).ext (Ext.alloc _ _)) _ _ rfl (by simp; rfl) rfl HS.out.2.2.2.2.1 HS.out.2.2.2.2.2.1 w rfl ((hx.trans (Ext.alloc _ _)).trans (Ext.alloc _ _)) ?_; intro v4 w4 hown4 hx4 hmv4; have H4 := Lib.hid (And.intro hown4 (And.intro hx4 hmv4)); clear hown4 hx4 hmv4)
              go_roundw
              case rel =>
                have ht3 := (HS.out.2.2.2.1.ext (Ext.alloc wr (.cells #[.int .i64 i, .int .i64 j] 3))).ext (Ext.alloc _ (.cells #[.slice (some ⟨wr.heap.size, 0, none⟩) 2 2] 22))
                have hlit : Own (wr.alloc (.cells #[.int .i64 i, .int .i64 j] 3)) wr.heap.size 3 (.slice (some ⟨wr.heap.size, 0, none⟩) 2 2) (icells [(i : Int), (j : Int)]) := Own.lit wr 3 [.int .i64 i, .int .i64 j] (by simp [maxLen])
                obtain ⟨g', cap', gs', cs', hv', ht'⟩ := ht3.push (r := [(i : Int), (j : Int)]) (gr := wr.heap.size) (cr := 2) HS.out.2.2.2.2.2.2 ((hlit.mono hx.size).ext (Ext.alloc _ _)) (by have := HS.out.2.1; omega) (fun q hq => by have := HS.out.2.2.1 q hq; omega) H4.out.1 H4.out.2.2
                rw [← arcsAt_succ m i j k] at ht'
                exact ⟨k + 1, L + 1, g', cap', gs', cs', by omega, by go_num, hv', by rw [arcsAt_succ, List.length_append, ← HS.out.2.2.2.2.2.2, List.length_singleton], ht', H4.out.2.1⟩
              case measure => simp [intOf]; omega
            · have hkX : k = X := by omega
              have e := arcsAt_col m i j k (by rw [HX.out]; omega)
              rw [e] at ht hLl
              have HT := Lib.hid (And.intro ht hLl)
              clear e ht hLl
              go_wp2
              go_roundw
              case rel => exact ⟨j + 1, L, _, _, _, _, by omega, by go_num, rfl, HT.out.2, HT.out.1, hx⟩
              case measure => simp [intOf]; omega
        · have hjn : j = n := by omega
          rw [hjn, HM.out.2.2.2.2.2 i] at ht hLl
          have HT := Lib.hid (And.intro ht hLl)
          clear ht hLl
          subst hjn
          go_wp2
          go_roundw
          case rel => exact ⟨i + 1, L, _, _, _, _, by omega, by go_num, rfl, HT.out.2, HT.out.1, hx⟩
          case measure => simp [intOf]; omega
    · have hin : i = n := by omega
      rw [hin, HM.out.2.2.2.2.1] at ht hLl
      have HT := Lib.hid (And.intro ht hLl)
      clear ht hLl
      subst hin
      go_wp2
      go_ret
      exact ⟨_, rfl, .inr ⟨g, cap, gs, cs, by rw [← HT.out.2]; rfl, by rw [← HT.out.2]; exact HT.out.1⟩, hx⟩

theorem arcsG_no {m : List (List Int)} (h : isGr m = false) : arcsG m = [] := by
  unfold arcsG
  rw [if_neg]
  rintro ⟨h1, h2⟩
  unfold isGr at h
  rw [h1, decide_eq_true h2] at h; cases h
theorem arcsG_yes {m : List (List Int)} (h : isGr m = true) : isMat m = true ∧ sumM m ≤ 60 ∧ arcsG m = arcsL m := by
  unfold isGr at h
  rw [Bool.and_eq_true, decide_eq_true_eq] at h
  exact ⟨h.1, h.2, by unfold arcsG; rw [if_pos h]⟩

theorem impl_ArcsOf_any (v : Value) (m : List (List Int)) (w : World) (h : ReadsRows w v m) :
    Calls Try.prog 84 #[v] w fun e w' => ∃ u, e = .returned u ∧ ReadsRows w' u (arcsG m) ∧ Ext w w' := by
  have hi := impl_IsGraph_any v m w h
  cases hm : isGr m with
  | false =>
    rw [hm] at hi
    have HI := Lib.hid (And.intro hi (arcsG_no hm))
    clear hi hm
    go_enter Try.func84, Try.ntmps84
    go_wp2_with (go_at_call 102; with_reducible refine HI.out.1.mono ?_; rintro e w' ⟨rfl, rfl⟩)
    go_ret
    exact ⟨_, rfl, by rw [HI.out.2]; exact ReadsRows.nil _ _ _ rfl, Ext.refl _⟩
  | true =>
    rw [hm] at hi
    obtain ⟨h1, h2, h3⟩ := arcsG_yes hm
    have HI := Lib.hid (And.intro hi (And.intro h3 (impl_arcs_any v m w h h1 h2)))
    clear hi hm h1 h2 h3
    go_enter Try.func84, Try.ntmps84
    go_wp2_with (first | (go_at_call 102; with_reducible refine HI.out.1.mono ?_; rintro e w' ⟨rfl, rfl⟩) | (go_at_call 103; with_reducible refine HI.out.2.2.mono ?_; rintro e w1 ⟨u, rfl, hres, hx⟩))
    go_ret
    exact ⟨_, rfl, by rw [HI.out.2.1]; exact hres.reads, hx⟩
theorem spec_ArcsOf_any (v : Value) (m : List (List Int)) (w : World) (h : ReadsRows w v m) :
    Calls Try.prog 82 #[v] w fun e w' => ∃ u, e = .returned u ∧ ReadsRows w' u (arcsG m) ∧ Ext w w' := by
  have hi := spec_IsGraph_any v m w h
  cases hm : isGr m with
  | false =>
    rw [hm] at hi
    have HI := Lib.hid (And.intro hi (arcsG_no hm))
    clear hi hm
    go_enter Try.func82, Try.ntmps82
    go_wp2_with (go_at_call 100; with_reducible refine HI.out.1.mono ?_; rintro e w' ⟨rfl, rfl⟩)
    go_ret
    exact ⟨_, rfl, by rw [HI.out.2]; exact spec_nil_rows _, Ext.alloc _ _⟩
  | true =>
    rw [hm] at hi
    obtain ⟨h1, h2, h3⟩ := arcsG_yes hm
    have HI := Lib.hid (And.intro hi (And.intro h3 (spec_l5Arcs_any v m w h h1 h2)))
    clear hi hm h1 h2 h3
    go_enter Try.func82, Try.ntmps82
    go_wp2_with (first | (go_at_call 100; with_reducible refine HI.out.1.mono ?_; rintro e w' ⟨rfl, rfl⟩) | (go_at_call 101; with_reducible refine HI.out.2.2.mono ?_; rintro e w1 ⟨u, rfl, hres, hx⟩))
    go_ret
    exact ⟨_, rfl, by rw [HI.out.2.1]; exact hres.reads, hx⟩
end Go.Proofs.Ytihidaeecfbngaa

/- Contracts: the components of a graph, by the program. -/
import Derived.Test.YtdngkfedkgiioaaDoorReachB
import Derived.Test.YtdngkfedkgiioaaDoorPkA
namespace Go
open Go.RowKit
theorem Own.rebase {w : World} {B B' : Nat} {E : TypeId} {g n cap : Nat} {fs : List Value} (h : Own w B E (.slice (some ⟨g, 0, none⟩) n cap) fs) (hg : B' ≤ g) : Own w B' E (.slice (some ⟨g, 0, none⟩) n cap) fs := by
  refine ⟨h.1, ?_⟩
  rcases h.2 with hn | ⟨g', cap', cur, hv, hb, rest⟩
  · exact .inl hn
  · refine .inr ⟨g', cap', cur, hv, ?_, rest⟩
    injection hv with e1 e2 e3
    injection e1 with e1
    injection e1 with e1
    omega
theorem Own.rebase_moved {w w0 : World} {B B' : Nat} {E : TypeId} {g n cap g' n' cap' : Nat} {fs : List Value} (h : Own w B E (.slice (some ⟨g', 0, none⟩) n' cap') fs) (hm : Moved w0 (.slice (some ⟨g, 0, none⟩) n cap) (.slice (some ⟨g', 0, none⟩) n' cap')) (hg : B' ≤ g) (h0 : B' ≤ w0.heap.size) : Own w B' E (.slice (some ⟨g', 0, none⟩) n' cap') fs := by
  refine h.rebase ?_
  rcases hm with hm | hm
  · simp [Value.ownBlock] at hm; omega
  · have := hm g' rfl; omega
theorem cell_fresh {w : World} {c : Array Value} {t : TypeId} {n i : Nat} {v : Value} (h : n = w.heap.size) (hv : c[i]? = some v) : (w.alloc (.cells c t)).cell? ⟨n, i, none⟩ = some v := by
  subst h
  rw [World.cell?_alloc_new, hv]
theorem GB.beyond {a b c : World} {row row2 : Option Nat} (h : a.grownBy b row) (k : b.grownBy c row2) (hr : ∀ x, row2 = some x → a.heap.size ≤ x) : a.grownBy c row :=
  ⟨k.os.trans h.os, k.tape.trans h.tape, k.output.trans h.output, Nat.le_trans h.size k.size, fun i hi hne => (k.block i (Nat.lt_of_lt_of_le hi h.size) (by intro e; have := hr i e.symm; omega)).trans (h.block i hi hne)⟩
end Go
namespace Go.Mx
open Go
def seenL (m : List (List Int)) (i : Nat) : List Bool := (List.range m.length).map fun q => seenB m i q
def seenAt (m : List (List Int)) (i j : Nat) : List Bool := (List.range m.length).map fun q => seenB m i q || (decide (q < j) && eqB m i q)
theorem seenL_length (m : List (List Int)) (i : Nat) : (seenL m i).length = m.length := by simp [seenL]
theorem seenAt_length (m : List (List Int)) (i j : Nat) : (seenAt m i j).length = m.length := by simp [seenAt]
theorem seenL_zero (m : List (List Int)) : seenL m 0 = List.replicate m.length false := by
  apply List.ext_getElem
  · simp [seenL]
  · intro q h1 h2; simp [seenL, seenB]
theorem seenAt_zero (m : List (List Int)) (i : Nat) : seenAt m i 0 = seenL m i := by
  unfold seenAt seenL; apply List.map_congr_left; intro q _; simp
theorem seenAt_all (m : List (List Int)) (i : Nat) : seenAt m i m.length = seenL m (i + 1) := by
  unfold seenAt seenL; apply List.map_congr_left; intro q hq
  rw [seenB_succ, decide_eq_true (List.mem_range.1 hq), Bool.true_and]
theorem seenAt_yes (m : List (List Int)) (i j : Nat) (h : eqB m i j = true) : (seenAt m i j).set j true = seenAt m i (j + 1) := by
  apply List.ext_getElem
  · simp [seenAt]
  · intro q h1 h2
    rw [List.getElem_set]
    by_cases e : j = q
    · subst e; simp [seenAt, h]
    · rw [if_neg e]
      simp only [seenAt, List.getElem_map, List.getElem_range]
      congr 2
      rw [Bool.eq_iff_iff]; simp; omega
theorem seenAt_no (m : List (List Int)) (i j : Nat) (h : eqB m i j = false) : seenAt m i (j + 1) = seenAt m i j := by
  unfold seenAt; apply List.map_congr_left; intro q _
  by_cases e : q = j
  · subst e; rw [h]; simp
  · congr 2
    rw [Bool.eq_iff_iff]; simp; omega
theorem seenL_at (m : List (List Int)) (i j : Nat) (hj : j < m.length) : (seenL m i).getD j false = seenB m i j := by simp [seenL, List.getD_eq_getElem?_getD, hj]
theorem seenL_keep {m : List (List Int)} {i : Nat} (h : ∀ j, j < m.length → seenB m (i + 1) j = seenB m i j) : seenL m (i + 1) = seenL m i := by
  unfold seenL; apply List.map_congr_left; intro q hq; exact h q (List.mem_range.1 hq)
theorem reachM_at (m : List (List Int)) (i j : Nat) (hi : i < m.length) (hj : j < m.length) : ((reachM m).getD i []).getD j 0 = b2i (reachB m i j) := tabF_at _ _ _ i j hi hj
theorem reachM_row (m : List (List Int)) (i : Nat) (hi : i < m.length) : ((reachM m).getD i []).length = m.length := by
  unfold reachM; rw [tabF_row _ _ _ _ hi, rowF_length]
theorem b2i_or (b : Bool) : (b2i b = 1 ∧ b = true) ∨ (b2i b = 0 ∧ b = false) := by cases b <;> simp [b2i]
end Go.Mx
namespace Go.Proofs.YtdngkfedkgiioaaDoor
open Go.RowKit Go.Mx
theorem infoBoolC : (Tryd.prog.info? 4).map (fun i => (i.zero, i.size, i.bytes)) = some (some (.bool false), 1, 1) := by kernel_rfl

set_option maxRecDepth 100000 in
set_option maxHeartbeats 8000000 in
theorem impl_ComponentsOf_any (v : Value) (m : List (List Int)) (w : World) (h : ReadsRows w v m) (hmat : isMat m = true) :
    Calls Tryd.prog 76 #[v] w fun e w' => ∃ u, e = .returned u ∧ ReadsRows w' u (compL m) ∧ Ext w w' := by
  have hi := impl_IsMatrix_any v m w h
  rw [hmat] at hi
  have hm := isMat_yes hmat
  have hre := impl_reach_any v m m.length w h hm
  obtain ⟨pa, ca, rfl⟩ := h.slice
  obtain ⟨-, hla1, hla2⟩ := h.len
  have hpn := hm.pos
  have hn9 := hm.le
  have hs0 := seenL_zero m
  have hall : compTo m m.length = compL m := rfl
  have hrl : (reachM m).length = m.length := tabF_length _ _ _
  have hrr := reachM_row m
  have hra := reachM_at m
  have hsa := seenL_at m
  have hsl := seenL_length m
  have hsal := seenAt_length m
  have hsall := seenAt_all m
  have hsy := seenAt_yes m
  have hseen := fun i (h : seenB m i i = true) (h2 : i < m.length) => seenL_keep (m := m) (i := i) (fun j _ => seenB_seen m i j h h2)
  have hoff := fun i (h : reachB m i i = false) => seenL_keep (m := m) (i := i) (fun j hj => seenB_off m i j h hj)
  have hlen := fun i => compTo_length m i
  obtain ⟨n, hn⟩ : ∃ n, n = m.length := ⟨_, rfl⟩
  rw [← hn] at h hm hla1 hpn hn9 hs0 hall hrl hrr hra hsa hsl hsal hsall hseen hi hre
  have hmk := run_make_row' (P := Tryd.prog) 85 4 (.bool false) 1 Tryd.underlying85 infoBoolC rfl .i64 .i64 n (by omega) (by omega)
  rw [← hn]
  have HI := Lib.hid (And.intro hi hre)
  have HM := Lib.hid (And.intro hall (And.intro hrl (And.intro hrr (And.intro hra (And.intro hsa (And.intro hsl hsal))))))
  have HQ := Lib.hid (And.intro hsall (And.intro hsy (And.intro hseen (And.intro hoff (And.intro hs0 (And.intro hlen hn))))))
  clear hi hre hmat hm hs0 hall hrl hrr hra hsa hsl hsal hsall hsy hseen hoff hlen hn h
  go_enter Tryd.func76, Tryd.ntmps76
  go_wp2_with (first | (go_at_call 63; with_reducible refine HI.out.1.mono ?_; rintro e w' ⟨rfl, rfl⟩) | (go_at_call 92; with_reducible refine HI.out.2.mono ?_; rintro e w1 ⟨ur, rfl, hres, hx⟩; have hrd := hres.reads; obtain ⟨pr, cr, hur⟩ := hrd.slice; rw [HM.out.2.1] at hur; subst hur; have hlr := hrd.len; have hlr1 := hlr.2.1; have hlr2 := hlr.2.2; have HR := Lib.hid (And.intro hrd hx); clear hres hrd hx hlr))
  have hz : Own (w1.alloc (.cells (madeCells #[.bool false] n) 4)) w1.heap.size 4 (.slice (some ⟨w1.heap.size, 0, none⟩) n n) (tcells (seenL m 0)) := by
    have := Own.made w1 4 (.bool false) n (by unfold maxLen; omega)
    rw [HQ.out.2.2.2.2.1, tcells_replicate]; exact this
  have hB0 : MTab ((w1.alloc (.cells (madeCells #[.bool false] n) 4)).alloc (.cells #[] 26)) (w1.heap.size + 1) 26 3 (w1.heap.size + 1) 0 0 (fun _ => 0) (fun _ => 0) (compTo m 0) := by
    have h1 := Own.lit (w1.alloc (.cells (madeCells #[.bool false] n) 4)) 26 [] (by simp)
    have e : (w1.alloc (.cells (madeCells #[.bool false] n) 4)).heap.size = w1.heap.size + 1 := by simp
    rw [e] at h1
    exact MTab.nil h1 _ _
  obtain ⟨s0, hs0⟩ : ∃ s, s = w1.heap.size := ⟨_, rfl⟩
  clear hmk
  have hxw := Ext.trans (Ext.alloc w1 (.cells (madeCells #[.bool false] n) 4)) (Ext.alloc _ (.cells #[] 26))
  have HB := Lib.hid (And.intro (hz.ext (Ext.alloc _ (.cells #[] 26))) (And.intro hB0 hxw))
  clear hz hB0 hxw
  go_loopw [5, 20] (fun v q wr => ∃ (i L g cap : Nat) (gs cs : Nat → Nat), i ≤ n ∧ q = .int .i64 i ∧ v = .slice (some ⟨g, 0, none⟩) L cap ∧ L = (compTo m i).length ∧ MTab wr (w1.heap.size + 1) 26 3 g L cap gs cs (compTo m i) ∧ Own wr w1.heap.size 4 (.slice (some ⟨w1.heap.size, 0, none⟩) n n) (tcells (seenL m i)) ∧ Ext w1 wr) (fun _ q _ => n - (intOf q).toNat)
  case atStart => exact ⟨0, 0, _, _, _, _, by omega, rfl, rfl, rfl, HB.out.2.1, HB.out.1, HB.out.2.2⟩
  case round =>
    clear HB
    obtain ⟨i, L, g, cap, gs, cs, hi, rfl, rfl, hL, ht, hs, hx1⟩ := hrel
    by_cases hlti : i < n
    · obtain ⟨wm, rfl⟩ : ∃ wm : World, wm = wr := ⟨_, rfl⟩
      obtain ⟨br, orr, ar, crr, hpr, hcR, hrow⟩ := HR.out.1.at i (by rw [HM.out.2.1]; exact hlti)
      subst hpr
      have hrl := HM.out.2.2.1 i hlti
      obtain ⟨b', o', rfl, hcD⟩ := hrow.at i (by rw [hrl]; exact hlti)
      rw [hrl] at hcR hrow
      have hlc := hrow.len.2.1
      rw [HM.out.2.2.2.1 i i hlti hlti] at hcD
      have hsn := hs.cell i (by rw [tcells_length, HM.out.2.2.2.2.2.1]; exact hlti)
      rw [tcells_at _ i (by rw [HM.out.2.2.2.2.2.1]; exact hlti), HM.out.2.2.2.2.1 i i hlti] at hsn
      have hhead := headB_of m i
      have HC := Lib.hid (And.intro hcR (And.intro hrow hrl))
      replace hcR := hx1.cell_some hcR
      replace hcD := hx1.cell_some hcD
      have HT := Lib.hid (And.intro ht (And.intro hL hs))
      clear ht hL hs hrow hrl
      cases hsb : seenB m i i with
      | true =>
        rw [hsb] at hsn hhead
        have HK := Lib.hid (And.intro (compTo_no m i (by rw [hhead]; rfl)) (HQ.out.2.2.1 i hsb hlti))
        clear hhead hsb
        go_wp2
        go_roundw
        case rel => exact ⟨i + 1, L, g, cap, gs, cs, by omega, by go_num, rfl, by rw [HK.out.1]; exact HT.out.2.1, by rw [HK.out.1]; exact HT.out.1, by rw [HK.out.2]; exact HT.out.2.2, hx1⟩
        case measure => simp [intOf]; omega
      | false =>
        rw [hsb] at hsn hhead
        clear hsb
        rcases b2i_or (reachB m i i) with ⟨hr1, hrb⟩ | ⟨hr0, hrb⟩
        rotate_left
        · rw [hr0] at hcD
          rw [hrb] at hhead
          have HK := Lib.hid (And.intro (compTo_no m i (by rw [hhead]; rfl)) (HQ.out.2.2.2.1 i hrb))
          clear hhead hrb hr0
          go_wp2
          go_roundw
          case rel => exact ⟨i + 1, L, g, cap, gs, cs, by omega, by go_num, rfl, by rw [HK.out.1]; exact HT.out.2.1, by rw [HK.out.1]; exact HT.out.1, by rw [HK.out.2]; exact HT.out.2.2, hx1⟩
          case measure => simp [intOf]; omega
        · rw [hr1] at hcD
          rw [hrb] at hhead
          have HK := Lib.hid (show headB m i = true by rw [hhead]; rfl)
          clear hhead hrb hr1
          have hp0 : Own (wm.alloc (.cells #[] 3)) w1.heap.size 3 (.slice (some ⟨wm.heap.size, 0, none⟩) 0 0) (icells (partOf m i 0)) := (Own.lit wm 3 [] (by simp)).mono hx1.size
          have hg0 : wm.grownBy (wm.alloc (.cells #[] 3)) (some w1.heap.size) := GB.ext (GB.refl _ _) (Ext.alloc _ _)
          have hsz := HT.out.2.2.lt
          go_wp2
          clear hcR hcD hsn
          go_loopw [7, 40] (fun u q wr => ∃ j Lp gr cr : Nat, j ≤ n ∧ q = .int .i64 j ∧ u = .slice (some ⟨gr, 0, none⟩) Lp cr ∧ Lp = (partOf m i j).length ∧ Own wr w1.heap.size 3 (.slice (some ⟨gr, 0, none⟩) Lp cr) (icells (partOf m i j)) ∧ wm.heap.size ≤ gr ∧ Own wr w1.heap.size 4 (.slice (some ⟨w1.heap.size, 0, none⟩) n n) (tcells (seenAt m i j)) ∧ wm.grownBy wr (some w1.heap.size) ∧ Ext w1 wr) (fun _ q _ => n - (intOf q).toNat)
          case atStart => exact ⟨0, 0, _, _, by omega, rfl, rfl, rfl, hp0, Nat.le_refl _, by rw [seenAt_zero]; exact HT.out.2.2.ext (Ext.alloc _ _), hg0, hx1.trans (Ext.alloc _ _)⟩
          case round =>
            clear hp0 hg0
            obtain ⟨j, Lp, gr, cp, hj, rfl, rfl, hLp, hpt, hgr, hs, hgb, hx2⟩ := hrel
            by_cases hltj : j < n
            · obtain ⟨brj, orj, arj, crj, hprj, hcJ, hrowj⟩ := HR.out.1.at j (by rw [HM.out.2.1]; exact hltj)
              cases hprj
              have hrlj := HM.out.2.2.1 j hltj
              obtain ⟨bj, oj, rfl, hcJi⟩ := hrowj.at i (by rw [hrlj]; exact hlti)
              rw [hrlj] at hcJ hrowj
              have hlcj := hrowj.len.2.1
              rw [HM.out.2.2.2.1 j i hltj hlti] at hcJi
              obtain ⟨_, _, e, hcIj⟩ := HC.out.2.1.at j (by rw [HC.out.2.2]; exact hltj)
              cases e
              rw [HM.out.2.2.2.1 i j hlti hltj] at hcIj
              replace hcJ := hx2.cell_some hcJ
              replace hcJi := hx2.cell_some hcJi
              replace hcIj := hx2.cell_some hcIj
              have hcR := hx2.cell_some HC.out.1
              have hq : eqB m i j = (reachB m i j && reachB m j i) := rfl
              clear hrowj hrlj
              rcases b2i_or (reachB m i j) with ⟨h1, hb1⟩ | ⟨h1, hb1⟩
              rotate_left
              · rw [h1] at hcIj
                rw [hb1, Bool.false_and] at hq
                clear h1 hb1
                have HP := Lib.hid (And.intro hpt (And.intro hs (And.intro hLp (And.intro (partOf_no m i j hq) (seenAt_no m i j hq)))))
                clear hpt hs hLp hq
                go_wp2
                go_roundw
                case rel => exact ⟨j + 1, Lp, gr, cp, by omega, by go_num, rfl, by rw [HP.out.2.2.2.1]; exact HP.out.2.2.1, by rw [HP.out.2.2.2.1]; exact HP.out.1, hgr, by rw [HP.out.2.2.2.2]; exact HP.out.2.1, hgb, hx2⟩
                case measure => simp [intOf]; omega
              · rw [h1] at hcIj
                rw [hb1, Bool.true_and] at hq
                clear h1 hb1
                rcases b2i_or (reachB m j i) with ⟨h2, hb2⟩ | ⟨h2, hb2⟩
                rotate_left
                · rw [h2] at hcJi
                  rw [hb2] at hq
                  clear h2 hb2
                  have HP := Lib.hid (And.intro hpt (And.intro hs (And.intro hLp (And.intro (partOf_no m i j hq) (seenAt_no m i j hq)))))
                  clear hpt hs hLp hq
                  go_wp2
                  go_roundw
                  case rel => exact ⟨j + 1, Lp, gr, cp, by omega, by go_num, rfl, by rw [HP.out.2.2.2.1]; exact HP.out.2.2.1, by rw [HP.out.2.2.2.1]; exact HP.out.1, hgr, by rw [HP.out.2.2.2.2]; exact HP.out.2.1, hgb, hx2⟩
                  case measure => simp [intOf]; omega
                · rw [h2] at hcJi
                  rw [hb2] at hq
                  clear h2 hb2
                  have hsc := hs.cell j (by rw [tcells_length, HM.out.2.2.2.2.2.2]; exact hltj)
                  have hsf := hs.frozen j
                  have hst := hs.store j (.bool true)
                  rw [tcells_set, HQ.out.2.1 i j hq] at hst
                  have hpt2 := GB.own (GB.setCell (GB.refl wr (some w1.heap.size)) j (.bool true)) hpt (by intro k hk; simp [Value.ownBlock] at hk; intro e; injection e with e; omega)
                  have hgb2 := GB.setCell hgb j (.bool true)
                  have hx3 := Ext.setCell hx2 (p := ⟨w1.heap.size, j, none⟩) (Nat.le_refl _) (.bool true)
                  have hpl := partOf_length m i j
                  have hv1 : (icells (partOf m i j)).length + 1 ≤ maxLen := by rw [icells_length]; unfold maxLen; omega
                  have hv2 : ((icells (partOf m i j)).length + 1) * 8 ≤ 140737488355328 := by rw [icells_length]; omega
                  have HP := Lib.hid (And.intro hpt2 (And.intro hst (And.intro hLp (And.intro (partOf_yes m i j hq) (And.intro hgb2 (And.intro hx3 (And.intro hv1 hv2)))))))
                  clear hpt hs hLp hq hst hpt2 hgb2 hx3 hpl hv1 hv2 hgb
                  go_wp2_with (at_builtin; refine wpList_append_one rfl (.tmp 64) (.tmp 66) 26 rfl 3 _ _ Tryd.underlying26 infoInt rfl w1.heap.size _ (icells (partOf m i j)) rfl (HP.out.1.ext (Ext.alloc _ _)) wr.heap.size (.int .i64 j) rfl (cell_fresh (by simp) rfl) rfl HP.out.2.2.2.2.2.2.1 HP.out.2.2.2.2.2.2.2 w1 rfl (Ext.trans HP.out.2.2.2.2.2.1 (Ext.alloc _ _)) ?_; intro v4 w4 hown4 hx4 hmv4; have H4 := Lib.hid (And.intro hown4 (And.intro hx4 hmv4)); clear hown4 hx4 hmv4)
                  go_roundw
                  case rel =>
                    have ho := H4.out.1
                    rw [icells_snoc, ← HP.out.2.2.2.1] at ho
                    have hmv := H4.out.2.2
                    have hsh := ho.shape
                    rw [icells_length] at hsh
                    rcases hsh with ⟨_, hn⟩ | ⟨g5, c5, hv5, _⟩
                    · have h9 := congrArg List.length hn
                      rw [HP.out.2.2.2.1, icells_length, List.length_append] at h9
                      simp at h9
                    · rw [hv5] at ho hmv
                      have hszq : wm.heap.size ≤ ((wr.setCell ⟨w1.heap.size, j, none⟩ (.bool true)).alloc (.cells #[.int .i64 j] 3)).heap.size := Nat.le_trans HP.out.2.2.2.2.1.size (Ext.alloc _ _).size
                      have hg5 : wm.heap.size ≤ g5 := by
                        rcases hmv.2 with hm | hm
                        · have hm2 : some g5 = some gr := hm
                          have := Option.some.inj hm2
                          omega
                        · have := hm g5 rfl; omega
                      have hs5 := GB.own hmv.1 (HP.out.2.1.ext (Ext.alloc _ (.cells #[.int .i64 j] 3))) (by intro k hk; simp [Value.ownBlock] at hk; intro e; have e2 : some gr = some k := e; have := Option.some.inj e2; omega)
                      have hb5 := GB.beyond (GB.ext HP.out.2.2.2.2.1 (Ext.alloc _ (.cells #[.int .i64 j] 3))) hmv.1 (by intro x hx; have e2 : some gr = some x := hx; have := Option.some.inj e2; omega)
                      exact ⟨j + 1, _, g5, c5, by omega, by go_num, hv5, rfl, ho, hg5, hs5, hb5, H4.out.2.1⟩
                  case measure => simp [intOf]; omega
            · have hjn : j = n := by omega
              rw [hjn, HQ.out.1 i] at hs
              rw [hjn, HQ.out.2.2.2.2.2.2] at hpt hLp
              have hsz2 : w1.heap.size + 1 ≤ wm.heap.size := by omega
              have ht2 := HT.out.1.gb hgb (by intro e; have := HT.out.1.lt; injection e with e; omega) (by intro q hq e; have := HT.out.1.rowlt q hq; injection e with e; omega)
              have hfull := (ht2.full HT.out.2.1)
              have hcl := HQ.out.2.2.2.2.2.1 i
              have hv1 : (rowsV gs cs (compTo m i)).length + 1 ≤ maxLen := by rw [rowsV_length]; unfold maxLen; omega
              have hv2 : ((rowsV gs cs (compTo m i)).length + 1) * 24 ≤ 140737488355328 := by rw [rowsV_length]; omega
              have hgl := HT.out.1.lt
              have hgsl := HT.out.1.rowlt
              have hsuc := compTo_yes m i HK.out
              have HP := Lib.hid (And.intro hpt (And.intro hs (And.intro hLp (And.intro ht2 (And.intro (hfull.mono (Nat.le_succ _)) (And.intro hv1 (And.intro hv2 (And.intro hgl (And.intro hgsl (And.intro hsuc hgb))))))))))
              clear hpt hs hLp ht2 hfull hv1 hv2 hgl hgsl hsuc hgb hcl
              subst hjn
              go_wp2_with (at_builtin; refine wpList_append_one rfl (.tmp 69) (.tmp 71) 24 rfl 26 _ _ Tryd.underlying24 infoRow rfl w1.heap.size _ (rowsV gs cs (compTo m i)) rfl (HP.out.2.2.2.2.1.ext (Ext.alloc _ _)) _ _ rfl (by simp; rfl) rfl HP.out.2.2.2.2.2.1 HP.out.2.2.2.2.2.2.1 w1 rfl (hx2.trans (Ext.alloc _ _)) ?_; intro v4 w4 hown4 hx4 hmv4; have H4 := Lib.hid (And.intro hown4 (And.intro hx4 hmv4)); clear hown4 hx4 hmv4)
              go_roundw
              case rel =>
                have hp := HP.out
                have h4 := H4.out
                have hmv := h4.2.2
                have hsh := h4.1.shape
                have hl4 : (rowsV gs cs (compTo m i) ++ [Value.slice (some ⟨gr, 0, none⟩) Lp cp]).length = L + 1 := by rw [List.length_append, rowsV_length, ← HT.out.2.1]; rfl
                rw [hl4] at hsh
                rcases hsh with ⟨_, hn⟩ | ⟨g5, c5, hv5, _⟩
                · simp at hn
                · have ho4 := h4.1
                  rw [hv5] at ho4 hmv
                  have ho5 := ho4.rebase_moved hmv.2 hp.2.2.2.2.2.2.2.1.1 (Nat.le_trans hsz2 (Nat.le_trans hp.2.2.2.2.2.2.2.2.2.2.size (Ext.alloc _ _).size))
                  have ht3 := hp.2.2.2.1.ext (Ext.alloc _ (.cells #[.slice (some ⟨gr, 0, none⟩) Lp cp] 26))
                  obtain ⟨g', cap', gs', cs', hv', ht'⟩ := ht3.push (r := partOf m i m.length) (gr := gr) (cr := cp) HT.out.2.1 (by rw [← hp.2.2.1]; exact ((hp.1.rebase (by omega)).ext (Ext.alloc _ _))) (by have := hp.2.2.2.2.2.2.2.1; omega) (fun q hq => by have := hp.2.2.2.2.2.2.2.2.1 q hq; omega) (by rw [← hp.2.2.1]; exact ho5) hmv
                  rw [← hp.2.2.2.2.2.2.2.2.2.1] at ht'
                  have hs5 := GB.own hmv.1 (hp.2.1.ext (Ext.alloc _ (.cells #[.slice (some ⟨gr, 0, none⟩) Lp cp] 26))) (by intro k hk; simp [Value.ownBlock] at hk; intro e; have e2 : some g = some k := e; have := Option.some.inj e2; have := hp.2.2.2.2.2.2.2.1; omega)
                  exact ⟨i + 1, L + 1, g', cap', gs', cs', by omega, by go_num, by rw [hv5, hv'], by rw [hp.2.2.2.2.2.2.2.2.2.1, List.length_append, ← HT.out.2.1, List.length_singleton], ht', hs5, h4.2.1⟩
              case measure => simp [intOf]; omega
    · have hin : i = n := by omega
      rw [hin, HM.out.1] at ht hL
      have HT := Lib.hid (ht.reads hL)
      clear ht hL hs
      subst hin
      go_wp2
      go_ret
      exact ⟨_, rfl, HT.out, HR.out.2.trans hx1⟩
end Go.Proofs.YtdngkfedkgiioaaDoor

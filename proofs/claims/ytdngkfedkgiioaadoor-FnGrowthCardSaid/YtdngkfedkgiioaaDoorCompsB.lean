/- Contracts: the components of a graph, by the reference. -/
import Derived.Test.YtdngkfedkgiioaaDoorCompsA
namespace Go.Proofs.YtdngkfedkgiioaaDoor
open Go.RowKit Go.Mx

theorem partOf_head0 (m : List (List Int)) (i : Nat) (hi : i < m.length) (h : (partOf m i m.length).length = 0) : headB m i = false := by
  rw [partOf_head m i hi, h]; rfl
theorem partOf_headx (m : List (List Int)) (i : Nat) (hi : i < m.length) (h : 0 < (partOf m i m.length).length) : headB m i = decide ((partOf m i m.length).getD 0 0 = (i : Int)) := by
  rw [partOf_head m i hi, decide_eq_true h, Bool.true_and]
  congr 2
  rw [List.getD_eq_getElem?_getD, List.getD_eq_getElem?_getD, List.getElem?_eq_getElem h]; rfl

set_option maxRecDepth 100000 in
set_option maxHeartbeats 8000000 in
theorem spec_ComponentsOf_any (v : Value) (m : List (List Int)) (w : World) (h : ReadsRows w v m) (hmat : isMat m = true) :
    Calls Tryd.prog 93 #[v] w fun e w' => ∃ u, e = .returned u ∧ ReadsRows w' u (compL m) ∧ Ext w w' := by
  have hm := isMat_yes hmat
  have hre := fun w' (hx : Ext w w') => spec_ReachOf_any v m w' (h.ext hx) hmat
  have hpn := hm.pos
  have hn9 := hm.le
  have hall : compTo m m.length = compL m := rfl
  have hrl : (reachM m).length = m.length := tabF_length _ _ _
  have hrr := reachM_row m
  have hra := reachM_at m
  have hlen := fun i => compTo_length m i
  have hh0 := partOf_head0 m
  have hhx := partOf_headx m
  obtain ⟨n, hn⟩ : ∃ n, n = m.length := ⟨_, rfl⟩
  rw [← hn] at hm hpn hn9 hall hrl hrr hra hh0 hhx
  have HI := Lib.hid hre
  have HM := Lib.hid (And.intro hall (And.intro hrl (And.intro hrr (And.intro hra (And.intro hlen (And.intro hh0 (And.intro hhx hn)))))))
  have hB0 : MTab (w.alloc (.cells #[] 26)) w.heap.size 26 3 w.heap.size 0 0 (fun _ => 0) (fun _ => 0) (compTo m 0) := MTab.nil (Own.lit w 26 [] (by simp)) _ _
  clear hre hmat hm hall hrl hrr hra hlen hh0 hhx hn h
  go_enter Tryd.func93, Tryd.ntmps93
  go_wp2_with fail
  with_reducible refine (HI.out _ (Ext.alloc _ _)).mono ?_
  rintro e w1 ⟨ur, rfl, hres, hx1⟩
  obtain ⟨rg, rcap, rgs, rcs, hur, hr⟩ : ∃ rg rcap rgs rcs, ur = .slice (some ⟨rg, 0, none⟩) n rcap ∧ MTab w1 (w.heap.size + 1) 26 3 rg n rcap rgs rcs (reachM m) := by
    rcases hres with ⟨_, he⟩ | ⟨rg, rcap, rgs, rcs, hv, ht⟩
    · have h9 := congrArg List.length he
      rw [HM.out.2.1] at h9
      simp at h9; omega
    · rw [HM.out.2.1] at hv ht
      refine ⟨rg, rcap, rgs, rcs, hv, ?_⟩
      have e : (w.alloc (.cells #[] 26)).heap.size = w.heap.size + 1 := by simp
      rw [e] at ht
      exact ht
  subst hur
  have hrc := hr.caps.1
  have hrc2 := hr.caps.2
  unfold maxLen at hrc2
  have HB := Lib.hid (And.intro (hB0.ext hx1) (And.intro hr (And.intro (Ext.trans (Ext.alloc w (.cells #[] 26)) hx1) (And.intro hr.lt hr.rowlt))))
  clear hres hr hB0 hx1
  go_wp2
  go_loopw [3, 5] (fun v q wr => ∃ (i L g cap : Nat) (gs cs : Nat → Nat), i ≤ n ∧ q = .int .i64 i ∧ v = .slice (some ⟨g, 0, none⟩) L cap ∧ L = (compTo m i).length ∧ MTab wr w.heap.size 26 3 g L cap gs cs (compTo m i) ∧ MTab wr (w.heap.size + 1) 26 3 rg n rcap rgs rcs (reachM m) ∧ rg ≠ g ∧ (∀ q, q < n → rgs q ≠ g) ∧ Ext w wr) (fun _ q _ => n - (intOf q).toNat)
  case atStart => exact ⟨0, 0, _, _, _, _, by omega, rfl, rfl, rfl, HB.out.1, HB.out.2.1, by have := HB.out.2.2.2.1; omega, fun q hq => by have := HB.out.2.2.2.2 q (by rw [HM.out.2.1]; exact hq); omega, HB.out.2.2.1⟩
  case round =>
    clear HB
    obtain ⟨i, L, g, cap, gs, cs, hi, rfl, rfl, hL, ht, hr, hd1, hd2, hx⟩ := hrel
    by_cases hlti : i < n
    · obtain ⟨wm, rfl⟩ : ∃ wm : World, wm = wr := ⟨_, rfl⟩
      have hz : Own (wm.alloc (.cells #[] 3)) wm.heap.size 3 (.slice (some ⟨wm.heap.size, 0, none⟩) 0 0) (icells (partOf m i 0)) := Own.lit wm 3 [] (by simp)
      have HT := Lib.hid (And.intro ht (And.intro hL (And.intro hr (And.intro hd1 hd2))))
      clear ht hL hr hd1 hd2
      go_wp2
      go_loopw [6, 7] (fun u q wr => ∃ j Lp gr cr : Nat, j ≤ n ∧ q = .int .i64 j ∧ u = .slice (some ⟨gr, 0, none⟩) Lp cr ∧ Lp = (partOf m i j).length ∧ Own wr wm.heap.size 3 (.slice (some ⟨gr, 0, none⟩) Lp cr) (icells (partOf m i j)) ∧ Ext wm wr) (fun _ q _ => n - (intOf q).toNat)
      case atStart => exact ⟨0, 0, _, _, by omega, rfl, rfl, rfl, hz, Ext.alloc _ _⟩
      case round =>
        clear hz
        obtain ⟨j, Lp, gr, cp, hj, rfl, rfl, hLp, hpt, hx2⟩ := hrel
        by_cases hltj : j < n
        · have hr2 := HT.out.2.2.1.ext hx2
          have hspi := hr2.spot i (by rw [HM.out.2.1]; exact hlti)
          have hspj := hr2.spot j (by rw [HM.out.2.1]; exact hltj)
          have hcij := hr2.at i j (by rw [HM.out.2.1]; exact hlti) (by rw [HM.out.2.2.1 i hlti]; exact hltj)
          have hcji := hr2.at j i (by rw [HM.out.2.1]; exact hltj) (by rw [HM.out.2.2.1 j hltj]; exact hlti)
          have hcpi := (hr2.row i (by rw [HM.out.2.1]; exact hlti)).caps.1
          have hcpj := (hr2.row j (by rw [HM.out.2.1]; exact hltj)).caps.1
          rw [HM.out.2.2.1 i hlti] at hspi hcpi
          rw [HM.out.2.2.1 j hltj] at hspj hcpj
          rw [HM.out.2.2.2.1 i j hlti hltj] at hcij
          rw [HM.out.2.2.2.1 j i hltj hlti] at hcji
          have hq : eqB m i j = (reachB m i j && reachB m j i) := rfl
          clear hr2
          rcases b2i_or (reachB m i j) with ⟨h1, hb1⟩ | ⟨h1, hb1⟩
          rotate_left
          · rw [h1] at hcij
            rw [hb1, Bool.false_and] at hq
            clear h1 hb1
            have HP := Lib.hid (And.intro hpt (And.intro hLp (partOf_no m i j hq)))
            clear hpt hLp hq
            go_wp2
            go_roundw
            case rel => exact ⟨j + 1, Lp, gr, cp, by omega, by go_num, rfl, by rw [HP.out.2.2]; exact HP.out.2.1, by rw [HP.out.2.2]; exact HP.out.1, hx2⟩
            case measure => simp [intOf]; omega
          · rw [h1] at hcij
            rw [hb1, Bool.true_and] at hq
            clear h1 hb1
            rcases b2i_or (reachB m j i) with ⟨h2, hb2⟩ | ⟨h2, hb2⟩
            rotate_left
            · rw [h2] at hcji
              rw [hb2] at hq
              clear h2 hb2
              have HP := Lib.hid (And.intro hpt (And.intro hLp (partOf_no m i j hq)))
              clear hpt hLp hq
              go_wp2
              go_roundw
              case rel => exact ⟨j + 1, Lp, gr, cp, by omega, by go_num, rfl, by rw [HP.out.2.2]; exact HP.out.2.1, by rw [HP.out.2.2]; exact HP.out.1, hx2⟩
              case measure => simp [intOf]; omega
            · rw [h2] at hcji
              rw [hb2] at hq
              clear h2 hb2
              have hpl := partOf_length m i j
              have hv1 : (icells (partOf m i j)).length + 1 ≤ maxLen := by rw [icells_length]; unfold maxLen; omega
              have hv2 : ((icells (partOf m i j)).length + 1) * 8 ≤ 140737488355328 := by rw [icells_length]; omega
              have HP := Lib.hid (And.intro hpt (And.intro hv1 (And.intro hv2 (partOf_yes m i j hq))))
              clear hpt hLp hq hpl hv1 hv2
              go_wp2_with (at_builtin; refine wpList_append_one rfl (.tmp 42) (.tmp 44) 26 rfl 3 _ _ Tryd.underlying26 infoInt rfl wm.heap.size _ (icells (partOf m i j)) rfl (HP.out.1.ext (Ext.alloc _ _)) _ _ rfl (by simp; rfl) rfl HP.out.2.1 HP.out.2.2.1 wm rfl (hx2.trans (Ext.alloc _ _)) ?_; intro v4 w4 hown4 hx4 hmv4; have H4 := Lib.hid (And.intro hown4 hx4); clear hown4 hx4 hmv4)
              go_roundw
              case rel =>
                have ho := H4.out.1
                rw [icells_snoc, ← HP.out.2.2.2] at ho
                have hsh := ho.shape
                rw [icells_length] at hsh
                rcases hsh with ⟨_, hn⟩ | ⟨g5, c5, hv5, _⟩
                · have h9 := congrArg List.length hn
                  rw [HP.out.2.2.2, icells_length, List.length_append] at h9
                  simp at h9
                · rw [hv5] at ho
                  exact ⟨j + 1, _, g5, c5, by omega, by go_num, hv5, rfl, ho, H4.out.2⟩
              case measure => simp [intOf]; omega
        · have hjn : j = n := by omega
          rw [hjn] at hpt hLp
          subst hjn
          by_cases hL0 : Lp = 0
          · have hh := HM.out.2.2.2.2.2.1 i hlti (by rw [← hLp]; exact hL0)
            subst hL0
            have HP := Lib.hid (And.intro (compTo_no m i hh) (And.intro hpt hLp))
            clear hh hpt hLp
            go_wp2
            go_roundw
            case rel => exact ⟨i + 1, L, g, cap, gs, cs, by omega, by go_num, rfl, by rw [HP.out.1]; exact HT.out.2.1, by rw [HP.out.1]; exact HT.out.1.ext hx2, HT.out.2.2.1.ext hx2, HT.out.2.2.2.1, HT.out.2.2.2.2, hx.trans hx2⟩
            case measure => simp [intOf]; omega
          · have hh := HM.out.2.2.2.2.2.2.1 i hlti (by omega)
            have hc0 := hpt.int_at 0 (by omega)
            obtain ⟨x, hxx⟩ : ∃ x, x = (partOf m i j).getD 0 0 := ⟨_, rfl⟩
            rw [← hxx] at hh hc0
            have hL1 : 0 < Lp := by omega
            clear hxx hL0
            by_cases hxi : x = (i : Int)
            rotate_left
            · rw [decide_eq_false hxi] at hh
              have hne : (x == (i : Int)) = false := by simpa using hxi
              clear hxi
              have HP := Lib.hid (And.intro (compTo_no m i hh) (And.intro hpt hLp))
              clear hh hpt hLp
              go_wp2
              go_roundw
              case rel => exact ⟨i + 1, L, g, cap, gs, cs, by omega, by go_num, rfl, by rw [HP.out.1]; exact HT.out.2.1, by rw [HP.out.1]; exact HT.out.1.ext hx2, HT.out.2.2.1.ext hx2, HT.out.2.2.2.1, HT.out.2.2.2.2, hx.trans hx2⟩
              case measure => simp [intOf]; omega
            · rw [decide_eq_true hxi] at hh
              have heq : (x == (i : Int)) = true := by simpa using hxi
              have ht2 := HT.out.1.ext hx2
              have hfull := ht2.full HT.out.2.1
              have hcl := HM.out.2.2.2.2.1 i
              have hv1 : (rowsV gs cs (compTo m i)).length + 1 ≤ maxLen := by rw [rowsV_length]; unfold maxLen; omega
              have hv2 : ((rowsV gs cs (compTo m i)).length + 1) * 24 ≤ 140737488355328 := by rw [rowsV_length]; omega
              have hsuc := compTo_yes m i hh
              have hlt := HT.out.1.lt
              have hrlt := HT.out.1.rowlt
              rw [← HM.out.2.2.2.2.2.2.2] at hsuc
              have HP := Lib.hid (And.intro hpt (And.intro hLp (And.intro ht2 (And.intro hfull (And.intro hv1 (And.intro hv2 (And.intro hsuc (And.intro hlt hrlt))))))))
              clear hpt hLp ht2 hfull hv1 hv2 hsuc hcl hh hlt hrlt hxi
              go_wp2_with (at_builtin; refine wpList_append_one rfl (.tmp 56) (.tmp 58) 24 rfl 26 _ _ Tryd.underlying24 infoRow rfl w.heap.size _ (rowsV gs cs (compTo m i)) rfl (HP.out.2.2.2.1.ext (Ext.alloc _ _)) _ _ rfl (by simp; rfl) rfl HP.out.2.2.2.2.1 HP.out.2.2.2.2.2.1 w rfl ((hx.trans hx2).trans (Ext.alloc _ _)) ?_; intro v4 w4 hown4 hx4 hmv4; have H4 := Lib.hid (And.intro hown4 (And.intro hx4 hmv4)); clear hown4 hx4 hmv4)
              go_roundw
              case rel =>
                have hp := HP.out
                have h4 := H4.out
                have hglt := hp.1.lt
                have ht3 := hp.2.2.1.ext (Ext.alloc _ (.cells #[.slice (some ⟨gr, 0, none⟩) Lp cp] 26))
                obtain ⟨g', cap', gs', cs', hv', ht'⟩ := ht3.push (r := partOf m i j) (gr := gr) (cr := cp) HT.out.2.1 (by rw [← hp.2.1]; exact ((hp.1.mono hx.size).ext (Ext.alloc _ _))) (by have := hp.2.2.2.2.2.2.2.1; omega) (fun q hq => by have := hp.2.2.2.2.2.2.2.2 q hq; omega) (by rw [← hp.2.1]; exact h4.1) h4.2.2
                rw [← hp.2.2.2.2.2.2.1] at ht'
                have hr3 := (HT.out.2.2.1.ext hx2).ext (Ext.alloc _ (.cells #[.slice (some ⟨gr, 0, none⟩) Lp cp] 26))
                have hrl3 := hr3.lt
                have hrr3 := hr3.rowlt
                have hr4 := hr3.gb h4.2.2.1 (by intro e; have e2 : some g = some rg := e; have := Option.some.inj e2; exact HT.out.2.2.2.1 this.symm) (fun q hq e => by have e2 : some g = some (rgs q) := e; have := Option.some.inj e2; exact HT.out.2.2.2.2 q (by rw [← HM.out.2.1]; exact hq) this.symm)
                have hmv := h4.2.2.2
                rw [hv'] at hmv
                have hg' : g' = g ∨ (wr.alloc (.cells #[.slice (some ⟨gr, 0, none⟩) Lp cp] 26)).heap.size ≤ g' := by
                  rcases hmv with hm | hm
                  · left
                    have e2 : some g' = some g := hm
                    exact Option.some.inj e2
                  · exact .inr (hm g' rfl)
                exact ⟨i + 1, L + 1, g', cap', gs', cs', by omega, by go_num, hv', by rw [hp.2.2.2.2.2.2.1, List.length_append, ← HT.out.2.1, List.length_singleton], ht', hr4, by have := HT.out.2.2.2.1; omega, fun q hq => by have := HT.out.2.2.2.2 q hq; have := hrr3 q (by rw [HM.out.2.1]; exact hq); omega, h4.2.1⟩
              case measure => simp [intOf]; omega
    · have hin : i = n := by omega
      rw [hin, HM.out.1] at ht hL
      have HT := Lib.hid (ht.reads hL)
      clear ht hL hr hd1 hd2
      subst hin
      go_wp2
      go_ret
      exact ⟨_, rfl, HT.out, hx⟩
end Go.Proofs.YtdngkfedkgiioaaDoor

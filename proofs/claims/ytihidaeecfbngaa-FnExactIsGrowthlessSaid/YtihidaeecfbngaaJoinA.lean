/- Contracts: two graphs joined, by the program. -/
import Derived.Test.YtihidaeecfbngaaZeroA
import Derived.Test.YtihidaeecfbngaaJoinMath
import Derived.Test.YtihidaeecfbngaaMatB
import Derived.Test.YtihidaeecfbngaaOwn3
namespace Go.Proofs.Ytihidaeecfbngaa
open Go.RowKit Go.Mx

theorem infoIntSize : (Try.prog.info? 3).map (·.size) = some 1 := by kernel_rfl

/-- a table, or none -/
theorem impl_checked_any (v : Value) (m : List (List Int)) (w : World) (h : ReadsRows w v m) :
    Calls Try.prog 79 #[v] w fun e w' => e = .returned (.tuple #[if isMat m = true then v else .slice none 0 0, .bool (isMat m)]) ∧ w = w' := by
  have hi := impl_IsMatrix_any v m w h
  cases hm : isMat m
  all_goals
    rw [hm] at hi
    have HI := Lib.hid hi
    clear hi hm
    go_enter Try.func79, Try.ntmps79
    go_wp2_with (go_at_call 71; with_reducible refine HI.out.mono ?_; rintro e w' ⟨rfl, rfl⟩)
    go_ret2
    exact ⟨rfl, rfl⟩

set_option maxRecDepth 100000 in
set_option maxHeartbeats 4000000 in
theorem impl_JoinGraphs_any (v v' : Value) (a b : List (List Int)) (w : World) (h : ReadsRows w v a) (h' : ReadsRows w v' b) :
    Calls Try.prog 40 #[v, v'] w fun e w' => ∃ u, e = .returned (.tuple #[u, .bool (joinO a b).isSome]) ∧ ResM w' w.heap.size u ((joinO a b).getD []) ∧ Ext w w' := by
  have ha := impl_IsMatrix_any v a w h
  have hb := impl_IsMatrix_any v' b w h'
  cases hma : isMat a with
  | false =>
    rw [hma] at ha
    have HI := Lib.hid (And.intro ha (joinO_no (a := a) (b := b) (by rw [hma]; rfl)))
    clear ha hb hma
    go_enter Try.func40, Try.ntmps40
    go_wp2_with (go_at_call 71; with_reducible refine HI.out.1.mono ?_; rintro e w' ⟨rfl, rfl⟩)
    go_ret2
    exact ⟨_, by rw [HI.out.2]; rfl, by rw [HI.out.2]; exact .inl ⟨rfl, rfl⟩, Ext.refl _⟩
  | true => cases hmb : isMat b with
  | false =>
    rw [hma] at ha
    rw [hmb] at hb
    have HI := Lib.hid (And.intro ha (And.intro hb (joinO_no (a := a) (b := b) (by rw [hmb]; simp))))
    clear ha hb hma hmb
    go_enter Try.func40, Try.ntmps40
    go_wp2_with (first | (go_at_call 71; with_reducible refine HI.out.1.mono ?_; rintro e w' ⟨rfl, rfl⟩) | (go_at_call 71; with_reducible refine HI.out.2.1.mono ?_; rintro e w' ⟨rfl, rfl⟩))
    go_ret2
    exact ⟨_, by rw [HI.out.2.2]; rfl, by rw [HI.out.2.2]; exact .inl ⟨rfl, rfl⟩, Ext.refl _⟩
  | true =>
    rw [hma] at ha
    rw [hmb] at hb
    have hMa := isMat_yes hma
    have hMb := isMat_yes hmb
    have hjm := joinM_mat hMa hMb
    have hjo := joinO_yes (a := a) (b := b) (by rw [hma, hmb]; rfl)
    have hjl := joinO_long (a := a) (b := b)
    obtain ⟨pa, ca, rfl⟩ := h.slice
    obtain ⟨pb, cb, rfl⟩ := h'.slice
    obtain ⟨-, hla1, hla2⟩ := h.len
    obtain ⟨-, hlb1, hlb2⟩ := h'.len
    have hra := fun i (hi : i < a.length) => join_row_a (b := b) hMa hi
    have hrb := fun i (hi : i < b.length) => join_row_b (a := a) hMb hi
    have hz0 : tabF (a.length + b.length) (a.length + b.length) (fun _ _ => 0) = tabF (a.length + b.length) (a.length + b.length) (maskF (doneB 0 0) (joinF a b)) := (fill_zero (fun _ _ h _ => by omega) (fun _ h => by omega)).symm
    have hfull : tabF (a.length + b.length) (a.length + b.length) (maskF (doneB (a.length + b.length) 0) (joinF a b)) = joinM a b := fill_all (Nat.le_refl _) 0
    obtain ⟨na, hna⟩ : ∃ n, n = a.length := ⟨_, rfl⟩
    obtain ⟨nb, hnb⟩ : ∃ n, n = b.length := ⟨_, rfl⟩
    have hpa := hMa.pos
    have hpb := hMb.pos
    have h9a := hMa.le
    have h9b := hMb.le
    rw [← hna] at hMa hjm hjo hjl hra hrb hz0 hfull hpa h9a h ha hla1 ⊢
    rw [← hnb] at hMb hjm hjo hjl hra hrb hz0 hfull hpb h9b h' hb hlb1 ⊢
    obtain ⟨J, hJ⟩ : ∃ J, J = joinF a b := ⟨_, rfl⟩
    rw [← hJ] at hra hrb hz0 hfull
    have hz := impl_zeros_any (na + nb) w (by omega)
    have ec : ((na + nb : Nat) : Int) = (na : Int) + (nb : Int) := by omega
    rw [ec] at hz
    have HM := Lib.hid (And.intro h (And.intro h' (And.intro hMa (And.intro hMb (And.intro ha (And.intro hb hz))))))
    have HJ := Lib.hid (And.intro hjm (And.intro hjo (And.intro hjl (And.intro hra (And.intro hrb (And.intro hz0 hfull))))))
    have HN := Lib.hid (And.intro hna hnb)
    clear ha hb hma hmb hjm hjo hjl hra hrb hz0 hfull hz ec hJ hna hnb h h' hMa hMb
    go_enter Try.func40, Try.ntmps40
    go_wp2_with (first | (go_at_call 71; with_reducible refine HM.out.2.2.2.2.1.mono ?_; rintro e w' ⟨rfl, rfl⟩) | (go_at_call 71; with_reducible refine HM.out.2.2.2.2.2.1.mono ?_; rintro e w' ⟨rfl, rfl⟩) | (go_at_call 78; with_reducible refine HM.out.2.2.2.2.2.2.mono ?_; rintro e w1 ⟨g, cap, gs, cs, rfl, ht, hx⟩; rw [HJ.out.2.2.2.2.2.1] at ht))
    go_loopw [27] (fun i wr => ∃ k : Nat, k ≤ na ∧ i = .int .i64 k ∧ MTab wr w.heap.size 22 3 g (na + nb) cap gs cs (tabF (na + nb) (na + nb) (maskF (doneB k 0) J)) ∧ Ext w wr) (fun i _ => na - (intOf i).toNat)
    case atStart => exact ⟨0, by omega, rfl, ht, hx⟩
    case round =>
      clear ht hx
      obtain ⟨k, hk, rfl, ht, hx⟩ := hrel
      by_cases hlt : k < na
      · obtain ⟨bk, o, a', c', rfl, hcell, hrow⟩ := (HM.out.1.ext hx).at k (by rw [← HN.out.1]; exact hlt)
        obtain ⟨b', o', rfl, -⟩ := hrow.at 0 (by rw [HM.out.2.2.1.row k hlt]; omega)
        rw [HM.out.2.2.1.row k hlt] at hcell hrow
        have hRl := ht.le
        have hkR : k < (tabF (na + nb) (na + nb) (maskF (doneB k 0) J)).length := by rw [tabF_length]; omega
        have hsp := ht.spot k hkR
        have hro := ht.row k hkR
        have hcp := hro.caps
        rw [tabF_row_length (by omega)] at hsp hro hcp
        rw [fill_row_zero (by omega) (fun _ h => by omega)] at hro
        have hnews := hrow.news
        have hnl : (icells (a.getD k [])).length = na := by rw [icells_length]; exact HM.out.2.2.1.row k hlt
        have hR := Lib.hid (And.intro ht (And.intro hro (And.intro hnews (And.intro hnl (And.intro hkR hrow)))))
        clear ht hro hnews hnl hkR hrow hRl
        go_wp2_with (with_reducible refine wpList_copy_into rfl (.tmp 35) (.tmp 36) 22 22 rfl 3 Try.underlying22 infoIntSize w.heap.size 3 (gs k) (na + nb) (cs k) (icells (rowF (na + nb) fun _ => 0)) hR.out.2.1 0 _ _ rfl ⟨b', o', none⟩ na _ rfl (icells (a.getD k [])) hR.out.2.2.2.1 hR.out.2.2.1 (icells_one _) (by omega) (by omega) ?_; intro w3 hown3 hg3; rw [HJ.out.2.2.2.1 k hlt] at hown3; have H3 := Lib.hid (And.intro hown3 hg3); clear hown3 hg3)
        go_roundw
        case rel =>
          have h3 := hR.out.1.turn k hR.out.2.2.2.2.1 H3.out.2 (rowF (na + nb) (J k)) (by rw [rowF_length, tabF_row_length (by omega)]) (by rw [rowF_length]; exact H3.out.1)
          rw [fill_whole] at h3
          exact ⟨k + 1, by omega, by go_num, h3, hx.grown H3.out.2 (by intro q hq; cases hq; exact (hR.out.1.rowlt k hR.out.2.2.2.2.1).1)⟩
        case measure => simp [intOf]; omega
      · have hkn : k = na := by omega
        subst hkn
        go_wp2
        go_loopw [41] (fun i wr => ∃ j : Nat, j ≤ nb ∧ i = .int .i64 j ∧ MTab wr w.heap.size 22 3 g (k + nb) cap gs cs (tabF (k + nb) (k + nb) (maskF (doneB (k + j) 0) J)) ∧ Ext w wr) (fun i _ => nb - (intOf i).toNat)
        case atStart => exact ⟨0, by omega, rfl, ht, hx⟩
        case round =>
          clear ht hx
          obtain ⟨j, hj, rfl, ht, hx⟩ := hrel
          by_cases hltj : j < nb
          · obtain ⟨bk, o, a', c', rfl, hcell, hrow⟩ := (HM.out.2.1.ext hx).at j (by rw [← HN.out.2]; exact hltj)
            obtain ⟨b', o', rfl, -⟩ := hrow.at 0 (by rw [HM.out.2.2.2.1.row j hltj]; omega)
            rw [HM.out.2.2.2.1.row j hltj] at hcell hrow
            obtain ⟨i, hi⟩ : ∃ i, i = k + j := ⟨_, rfl⟩
            have hie : (k : Int) + (j : Int) = (i : Int) := by omega
            have hin : i < k + nb := by omega
            rw [← hi] at ht
            have hkR : i < (tabF (k + nb) (k + nb) (maskF (doneB i 0) J)).length := by rw [tabF_length]; omega
            have hsp := ht.spot i hkR
            have hro := ht.row i hkR
            have hcp := hro.caps
            rw [tabF_row_length (by omega)] at hsp hro hcp
            rw [fill_row_zero (by omega) (fun _ h => by omega)] at hro
            have hcp1 := hcp.1
            have hcne : ¬ cs i = k := by omega
            have hnews := hrow.news
            have hnl : (icells (b.getD j [])).length = nb := by rw [icells_length]; exact HM.out.2.2.2.1.row j hltj
            have hR := Lib.hid (And.intro ht (And.intro hro (And.intro hnews (And.intro hnl (And.intro hkR (And.intro hrow hi))))))
            clear ht hro hnews hnl hkR hrow hi hcp
            go_wp2_with (with_reducible refine wpList_copy_into rfl (.tmp 55) (.tmp 56) 22 22 rfl 3 Try.underlying22 infoIntSize w.heap.size 3 (gs i) (k + nb) (cs i) (icells (rowF (k + nb) fun _ => 0)) hR.out.2.1 k _ _ rfl ⟨b', o', none⟩ nb _ rfl (icells (b.getD j [])) hR.out.2.2.2.1 hR.out.2.2.1 (icells_one _) (by omega) (by omega) ?_; intro w3 hown3 hg3; rw [HJ.out.2.2.2.2.1 j hltj, ← hR.out.2.2.2.2.2.2] at hown3; have H3 := Lib.hid (And.intro hown3 hg3); clear hown3 hg3)
            go_roundw
            case rel =>
              have h3 := hR.out.1.turn i hR.out.2.2.2.2.1 H3.out.2 (rowF (k + nb) (J i)) (by rw [rowF_length, tabF_row_length (by omega)]) (by rw [rowF_length]; exact H3.out.1)
              rw [fill_whole, hR.out.2.2.2.2.2.2] at h3
              exact ⟨j + 1, by omega, by go_num, h3, hx.grown H3.out.2 (by intro q hq; cases hq; exact (hR.out.1.rowlt i hR.out.2.2.2.2.1).1)⟩
            case measure => simp [intOf]; omega
          · have hjn : j = nb := by omega
            subst hjn
            rw [HJ.out.2.2.2.2.2.2] at ht
            have hjl : (joinM a b).length = k + j := by unfold joinM; rw [tabF_length, ← HN.out.1, ← HN.out.2]
            have hres : ResM wr w.heap.size (.slice (some ⟨g, 0, none⟩) (k + j) cap) (joinM a b) := .inr ⟨g, cap, gs, cs, by rw [hjl], by rw [hjl]; exact ht⟩
            clear hjl
            have hck := impl_checked_any _ _ _ hres.reads
            rw [HJ.out.1] at hck
            have HC := Lib.hid (And.intro hck hres)
            clear ht hck hres
            by_cases h9 : k + j ≤ 9
            · have hjo := HJ.out.2.1 h9
              have HO := Lib.hid (And.intro hjo h9)
              clear hjo
              go_wp2_with fail
              with_reducible refine HC.out.1.mono ?_
              rintro e w' ⟨rfl, rfl⟩
              rw [decide_eq_true HO.out.2]
              go_wp2
              go_ret2
              exact ⟨_, by rw [HO.out.1]; rfl, by rw [HO.out.1]; exact HC.out.2, hx⟩
            · have hjo := HJ.out.2.2.1 h9
              have HO := Lib.hid (And.intro hjo h9)
              clear hjo h9
              go_wp2_with fail
              with_reducible refine HC.out.1.mono ?_
              rintro e w' ⟨rfl, rfl⟩
              rw [decide_eq_false HO.out.2]
              go_wp2
              go_ret2
              exact ⟨_, by rw [HO.out.1]; rfl, by rw [HO.out.1]; exact .inl ⟨rfl, rfl⟩, hx⟩
end Go.Proofs.Ytihidaeecfbngaa

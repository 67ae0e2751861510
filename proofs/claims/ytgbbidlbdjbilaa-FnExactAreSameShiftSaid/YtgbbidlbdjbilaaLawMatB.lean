/- Contracts of the laws' own helpers on tables of numbers: copies, comparisons, marks. -/
import Derived.Test.YtgbbidlbdjbilaaLawMat
namespace Go.Proofs.Ytgbbidlbdjbilaa
open Go.RowKit

set_option maxHeartbeats 1000000 in
theorem eqIntS_same (v v' : Value) (xs : List Int) (w : World) (h : ReadsI w v xs) (h' : ReadsI w v' xs) :
    Calls Try.prog 52 #[v, v'] w fun e w' => e = .returned (.bool true) ∧ Ext w w' := by
  obtain ⟨a, c, rfl⟩ := h.slice
  obtain ⟨a', c', rfl⟩ := h'.slice
  obtain ⟨-, hlc, hc⟩ := h.len
  obtain ⟨n, hn⟩ : ∃ n, n = xs.length := ⟨_, rfl⟩
  rw [← hn] at hlc h h' ⊢
  have HM := Lib.hid (And.intro h (And.intro h' hn))
  clear h h' hn
  go_enter Try.func52, Try.ntmps52
  go_wp2
  go_loopw [5] (fun i wr => ∃ k : Nat, k ≤ n ∧ i = .int .i64 k ∧ Ext w wr) (fun i _ => n - (intOf i).toNat)
  case atStart => exact ⟨0, by omega, rfl, Ext.refl _⟩
  case round =>
    obtain ⟨k, hk, rfl, hx⟩ := hrel
    by_cases hlt : k < n
    · have hkm : k < xs.length := by rw [← HM.out.2.2]; exact hlt
      obtain ⟨b, o, rfl, hcell⟩ := (HM.out.1.ext hx).at k hkm
      obtain ⟨b', o', rfl, hcell'⟩ := (HM.out.2.1.ext hx).at k hkm
      obtain ⟨x, hxx⟩ : ∃ x, x = xs.getD k 0 := ⟨_, rfl⟩
      rw [← hxx] at hcell hcell'
      clear hxx
      have hxd : ∀ j, Ext w (wr.drewN j) := fun j => hx.drewN j
      go_wp2
      go_quiet (fail)
      go_wp2
      go_roundw
      case rel => exact ⟨k + 1, by omega, by go_num, hxd _⟩
      case measure => simp [intOf]; omega
    · go_wp2
      go_ret
      exact ⟨rfl, hx⟩

set_option maxHeartbeats 1000000 in
theorem eqIntSS_same (v v' : Value) (m : List (List Int)) (w : World) (h : ReadsRows w v m) (h' : ReadsRows w v' m) :
    Calls Try.prog 25 #[v, v'] w fun e w' => e = .returned (.bool true) ∧ Ext w w' := by
  obtain ⟨a, c, rfl⟩ := h.slice
  obtain ⟨a', c', rfl⟩ := h'.slice
  obtain ⟨-, hlc, hc⟩ := h.len
  obtain ⟨n, hn⟩ : ∃ n, n = m.length := ⟨_, rfl⟩
  rw [← hn] at hlc h h' ⊢
  have HM := Lib.hid (And.intro h (And.intro h' hn))
  clear h h' hn
  go_enter Try.func25, Try.ntmps25
  go_wp2
  go_loopw [5] (fun i wr => ∃ k : Nat, k ≤ n ∧ i = .int .i64 k ∧ Ext w wr) (fun i _ => n - (intOf i).toNat)
  case atStart => exact ⟨0, by omega, rfl, Ext.refl _⟩
  case round =>
    obtain ⟨k, hk, rfl, hx⟩ := hrel
    by_cases hlt : k < n
    · have hkm : k < m.length := by rw [← HM.out.2.2]; exact hlt
      obtain ⟨b, o, a1, c1, rfl, hcell, hrow⟩ := (HM.out.1.ext hx).at k hkm
      obtain ⟨b', o', a1', c1', rfl, hcell', hrow'⟩ := (HM.out.2.1.ext hx).at k hkm
      obtain ⟨r, hr⟩ : ∃ r, r = m.getD k [] := ⟨_, rfl⟩
      rw [← hr] at hcell hcell' hrow hrow'
      have HR := Lib.hid (And.intro hrow hrow')
      clear hr hrow hrow'
      obtain ⟨wq, rfl⟩ : ∃ wq : World, wq = wr := ⟨_, rfl⟩
      go_wp2
      refine wp_region_inv (by kernel_rfl) (.known ?hx5_19_v0 :: .known ?hx5_19_v1 :: .known ?hx5_19_v2 :: .known ?hx5_19_v3 :: .known ?hx5_19_v4 :: .known ?hx5_19_v5 :: .known ?hx5_19_v6 :: .known ?hx5_19_v7 :: .known (.bool true) :: .known ?hx5_19_v9 :: []) rfl (by kernel_rfl) ?hx5_19_s ?hx5_19_p
      case hx5_19_s =>
        intro vs
        refine ⟨fun w' hxw hj => ?_, fun w' hxw hj => ?_, fun w' hxw hj => ?_, fun w' hxw hj => ?_, fun w' hxw hj => ?_, fun w' hxw hj => ?_, fun w' hxw hj => ?_, fun w' hxw hj => ?_, fun w' hxw hj => ?_, fun w' hxw hj => ?_, trivial⟩
        · have hcell := Ext.cell_some hxw hcell
          have hcell' := Ext.cell_some hxw hcell'
          clear hj
          go_simp
          try go_bits
          first | rfl | (rw [if_pos (by omega), if_pos (by omega)]; go_simp; rfl) | (rw [if_pos (by omega)]; go_simp; rfl) | skip
        · have hcell := Ext.cell_some hxw hcell
          have hcell' := Ext.cell_some hxw hcell'
          clear hj
          go_simp
          try go_bits
          first | rfl | (rw [if_pos (by omega), if_pos (by omega)]; go_simp; rfl) | (rw [if_pos (by omega)]; go_simp; rfl) | skip
        · have hcell := Ext.cell_some hxw hcell
          have hcell' := Ext.cell_some hxw hcell'
          clear hj
          go_simp
          try go_bits
          first | rfl | (rw [if_pos (by omega), if_pos (by omega)]; go_simp; rfl) | (rw [if_pos (by omega)]; go_simp; rfl) | skip
        · have hcell := Ext.cell_some hxw hcell
          have hcell' := Ext.cell_some hxw hcell'
          clear hj
          go_simp
          try go_bits
          first | rfl | (rw [if_pos (by omega), if_pos (by omega)]; go_simp; rfl) | (rw [if_pos (by omega)]; go_simp; rfl) | skip
        · have hcell := Ext.cell_some hxw hcell
          have hcell' := Ext.cell_some hxw hcell'
          clear hj
          go_simp
          try go_bits
          first | rfl | (rw [if_pos (by omega), if_pos (by omega)]; go_simp; rfl) | (rw [if_pos (by omega)]; go_simp; rfl) | skip
        · have hcell := Ext.cell_some hxw hcell
          have hcell' := Ext.cell_some hxw hcell'
          clear hj
          go_simp
          try go_bits
          first | rfl | (rw [if_pos (by omega), if_pos (by omega)]; go_simp; rfl) | (rw [if_pos (by omega)]; go_simp; rfl) | skip
        · have hcell := Ext.cell_some hxw hcell
          have hcell' := Ext.cell_some hxw hcell'
          clear hj
          go_simp
          try go_bits
          first | rfl | (rw [if_pos (by omega), if_pos (by omega)]; go_simp; rfl) | (rw [if_pos (by omega)]; go_simp; rfl) | skip
        · have hcell := Ext.cell_some hxw hcell
          have hcell' := Ext.cell_some hxw hcell'
          clear hj
          go_simp
          try go_bits
          first | rfl | (rw [if_pos (by omega), if_pos (by omega)]; go_simp; rfl) | (rw [if_pos (by omega)]; go_simp; rfl) | skip
        · have hcell := Ext.cell_some hxw hcell
          have hcell' := Ext.cell_some hxw hcell'
          clear hj
          go_simp
          try go_bits
          exact eqIntS_same _ _ r _ (HR.out.1.ext hxw) (HR.out.2.ext hxw)
        · have hcell := Ext.cell_some hxw hcell
          have hcell' := Ext.cell_some hxw hcell'
          clear hj
          go_simp
          try go_bits
          first | rfl | (rw [if_pos (by omega), if_pos (by omega)]; go_simp; rfl) | (rw [if_pos (by omega)]; go_simp; rfl) | skip
      case' hx5_19_p =>
        intro vs w5 hx5 hk
        clear hk
        replace hcell := Ext.cell_some hx5 hcell
        replace hcell' := Ext.cell_some hx5 hcell'
        replace hx := Ext.trans hx hx5
        go_simp
        clear hx5
        go_wp2
        go_roundw
        case rel => exact ⟨k + 1, by omega, by go_num, hx⟩
        case measure => simp [intOf]; omega
    · go_wp2
      go_ret
      exact ⟨rfl, hx⟩

set_option maxHeartbeats 1000000 in
theorem markIntS_any (B : Nat) (v : Value) (xs : List Int) (q : Int) (w : World) (h : Own w B 3 v (icells xs)) (h0 : 0 ≤ q) (h1 : q + (xs.length : Int) ≤ 4611686018427387904) :
    Calls Try.prog 53 #[v, .int .i64 q] w fun e w' => e = .returned (.int .i64 (q + (xs.length : Int))) ∧ w.grownBy w' v.ownBlock ∧ Own w' B 3 v (icells (countL q xs.length)) := by
  rcases h.shape with ⟨rfl, hnil⟩ | ⟨g, cap, rfl, hg, hgl, hnc, hcm⟩
  · have hx0 : xs = [] := List.eq_nil_of_length_eq_zero (by rw [← icells_length, hnil]; rfl)
    subst hx0
    go_enter Try.func53, Try.ntmps53
    go_wp2
    go_loop [1, 5] (fun x i => x = .int .i64 q ∧ i = .int .i64 0) (fun _ i => 0)
    case atStart => exact ⟨rfl, rfl⟩
    case round =>
      obtain ⟨rfl, rfl⟩ := hrel
      go_wp2
      go_ret
      exact ⟨ret_int (by simp), GB.refl _ _, h⟩
  · rw [icells_length] at h hnc ⊢
    obtain ⟨n, hn⟩ : ∃ n, n = xs.length := ⟨_, rfl⟩
    rw [← hn] at h h1 hnc ⊢
    unfold maxLen at hcm
    have H0 := Lib.hid (And.intro h hn)
    clear h hn
    go_enter Try.func53, Try.ntmps53
    go_wp2
    go_loopw [1, 5] (fun x i wr => ∃ k : Nat, k ≤ n ∧ i = .int .i64 k ∧ x = .int .i64 (q + (k : Int)) ∧ w.grownBy wr (some g) ∧ Own wr B 3 (.slice (some ⟨g, 0, none⟩) n cap) (icells (countL q k ++ xs.drop k))) (fun _ i _ => n - (intOf i).toNat)
    case atStart => exact ⟨0, by omega, rfl, by simp, GB.refl _ _, by simpa [countL] using H0.out.1⟩
    case round =>
      obtain ⟨k, hk, rfl, rfl, hgb, hown⟩ := hrel
      by_cases hlt : k < n
      · have hkm : k < xs.length := by rw [← H0.out.2]; exact hlt
        have hc1 := hown.int_at k (by simp [countL_length]; omega)
        have hf1 := hown.frozen k
        have hst := hown.store k (.int .i64 (q + (k : Int)))
        rw [icells_set] at hst
        have e : (countL q k ++ xs.drop k).set k (q + (k : Int)) = countL q (k + 1) ++ xs.drop (k + 1) := by
          rw [List.set_append_right _ _ (by simp [countL_length]), countL_length, Nat.sub_self, List.drop_eq_getElem_cons hkm, List.set_cons_zero]
          simp [countL, List.range_succ]
        rw [e] at hst
        have hgb' := GB.setCell hgb k (.int .i64 (q + (k : Int)))
        have HS := Lib.hid (And.intro hst hgb')
        clear hst hgb' e hgb hown
        go_wp2
        go_roundw
        case rel => exact ⟨k + 1, by omega, by go_num, by go_num, HS.out.2, HS.out.1⟩
        case measure => simp [intOf]; omega
      · have hkn : k = n := by omega
        subst hkn
        rw [List.drop_of_length_le (by rw [← H0.out.2]; exact Nat.le_refl _), List.append_nil] at hown
        go_wp2
        go_ret
        exact ⟨rfl, hgb, hown⟩

set_option maxHeartbeats 1000000 in
theorem markIntSS_any (B g cap C : Nat) (gs cs : Nat → Nat) (m : List (List Int)) (q : Int) (w : World) (h : MTab w B 51 3 g m.length cap gs cs m) (h0 : 0 ≤ q) (h1 : q + (sizeM m : Int) ≤ 4611686018427387904) (hC : ∀ i, i < m.length → gs i < C) :
    Calls Try.prog 26 #[.slice (some ⟨g, 0, none⟩) m.length cap, .int .i64 q] w fun e w' => e = .returned (.int .i64 (q + (sizeM m : Int))) ∧ Within B C w w' ∧ MTab w' B 51 3 g m.length cap gs cs (markM q m) := by
  obtain ⟨n, hn⟩ : ∃ n, n = m.length := ⟨_, rfl⟩
  have hcp := h.caps
  unfold maxLen at hcp
  obtain ⟨hcp1, hcp2⟩ := hcp
  rw [← hn] at h hcp1 ⊢
  have H0 := Lib.hid (And.intro h (And.intro hn hC))
  clear h hn hC
  go_enter Try.func26, Try.ntmps26
  go_wp2
  go_loopw [1, 5] (fun x i wr => ∃ k : Nat, k ≤ n ∧ i = .int .i64 k ∧ x = .int .i64 (q + (sizeM (m.take k) : Int)) ∧ Within B C w wr ∧ MTab wr B 51 3 g n cap gs cs (markTo q m k)) (fun _ i _ => n - (intOf i).toNat)
  case atStart => exact ⟨0, by omega, rfl, by simp [sizeM], Within.refl _ _ _, by rw [markTo_zero]; exact H0.out.1⟩
  case round =>
    obtain ⟨k, hk, rfl, rfl, hwi, ht⟩ := hrel
    by_cases hlt : k < n
    · have hkm : k < m.length := by rw [← H0.out.2.1]; exact hlt
      have hkt : k < (markTo q m k).length := by rw [markTo_length]; exact hkm
      have hc1 := ht.spot k hkt
      have hrow := ht.row k hkt
      rw [markTo_ge q m k k (by omega) (Nat.le_refl _)] at hc1 hrow
      have hlt1 := ht.rowlt k hkt
      have hs := sizeM_take m k hkm
      have hle := sizeM_take_le m (k + 1)
      have hsucc := markTo_succ q m k hkm
      have hgC := H0.out.2.2 k hkm
      obtain ⟨r, hr⟩ : ∃ r, r = m.getD k [] := ⟨_, rfl⟩
      have hrl : (markTo q m k).getD k [] = r := by rw [hr]; exact markTo_ge q m k k (by omega) (Nat.le_refl _)
      rw [← hr] at hc1 hrow hs hsucc
      obtain ⟨s, hss⟩ : ∃ s, s = sizeM (m.take k) := ⟨_, rfl⟩
      rw [← hss] at hs hsucc ⊢
      have HS := Lib.hid (And.intro hs (And.intro hsucc (And.intro hrl hrow)))
      have hb : q + (s : Int) + (r.length : Int) ≤ 4611686018427387904 := by omega
      clear hs hle hsucc hrl hrow hr hss
      go_wp2_with fail
      with_reducible refine (markIntS_any B _ r _ _ HS.out.2.2.2 (by omega) hb).mono ?_
      rintro e w1 ⟨rfl, hgb, hown⟩
      have hwi' := hwi.trans (Within.grown (C := C) hgb hlt1.1 hgC)
      have ht' := ht.turn k hkt hgb (countL (q + (s : Int)) r.length) (by rw [countL_length, HS.out.2.2.1]) (by rw [countL_length]; exact hown)
      rw [← HS.out.2.1] at ht'
      clear hgb hown ht hwi hc1 hlt1
      go_wp2
      go_roundw
      case rel => exact ⟨k + 1, by omega, by go_num, by rw [HS.out.1]; go_num, hwi', ht'⟩
      case measure => simp [intOf]; omega
    · have hkn : k = n := by omega
      subst hkn
      have e1 := H0.out.2.1
      have e2 : sizeM (m.take k) = sizeM m := by rw [e1]; exact sizeM_all m
      have e3 : markTo q m k = markM q m := by rw [e1]; exact markTo_all q m
      rw [e3] at ht
      rw [e2]
      clear e1 e2 e3
      go_wp2
      go_ret
      exact ⟨rfl, hwi, ht⟩

set_option maxHeartbeats 1000000 in
theorem heldIntS_same (v : Value) (n : Nat) (q : Int) (w : World) (h : ReadsI w v (countL q n)) (h0 : 0 ≤ q) (h1 : q + (n : Int) ≤ 4611686018427387904) :
    Calls Try.prog 54 #[v, .int .i64 q] w fun e w' => e = .returned (.int .i64 (q + (n : Int))) ∧ w = w' := by
  obtain ⟨a, c, rfl⟩ := h.slice
  obtain ⟨-, hlc, hc⟩ := h.len
  rw [countL_length] at h hlc ⊢
  have HM := Lib.hid h
  clear h
  go_enter Try.func54, Try.ntmps54
  go_wp2
  go_loop [1, 5] (fun x i => ∃ k : Nat, k ≤ n ∧ i = .int .i64 k ∧ x = .int .i64 (q + (k : Int))) (fun _ i => n - (intOf i).toNat)
  case atStart => exact ⟨0, by omega, rfl, by simp⟩
  case round =>
    obtain ⟨k, hk, rfl, rfl⟩ := hrel
    by_cases hlt : k < n
    · obtain ⟨b, o, rfl, hcell⟩ := HM.out.at k (by rw [countL_length]; exact hlt)
      rw [countL_at _ _ _ hlt] at hcell
      go_wp2
      go_round
      case rel => exact ⟨k + 1, by omega, by go_num, by go_num⟩
      case measure => simp [intOf]; omega
    · have hkn : k = n := by omega
      subst hkn
      go_wp2
      go_ret
      exact ⟨rfl, rfl⟩

set_option maxHeartbeats 1000000 in
theorem heldIntSS_same (v : Value) (m : List (List Int)) (q : Int) (w : World) (h : ReadsRows w v (markM q m)) (h0 : 0 ≤ q) (h1 : q + (sizeM m : Int) ≤ 4611686018427387904) :
    Calls Try.prog 27 #[v, .int .i64 q] w fun e w' => e = .returned (.int .i64 (q + (sizeM m : Int))) ∧ w = w' := by
  obtain ⟨a, c, rfl⟩ := h.slice
  obtain ⟨-, hlc, hc⟩ := h.len
  rw [markM_length] at h hlc ⊢
  obtain ⟨n, hn⟩ : ∃ n, n = m.length := ⟨_, rfl⟩
  rw [← hn] at h hlc ⊢
  have HM := Lib.hid (And.intro h hn)
  clear h hn
  go_enter Try.func27, Try.ntmps27
  go_wp2
  go_loop [1, 5] (fun x i => ∃ k : Nat, k ≤ n ∧ i = .int .i64 k ∧ x = .int .i64 (q + (sizeM (m.take k) : Int))) (fun _ i => n - (intOf i).toNat)
  case atStart => exact ⟨0, by omega, rfl, by simp [sizeM]⟩
  case round =>
    obtain ⟨k, hk, rfl, rfl⟩ := hrel
    by_cases hlt : k < n
    · have hkm : k < m.length := by rw [← HM.out.2]; exact hlt
      obtain ⟨b, o, a', c', rfl, hcell, hrow⟩ := HM.out.1.at k (by rw [markM_length]; exact hkm)
      rw [markM_at q m k hkm] at hcell hrow
      have hs := sizeM_take m k hkm
      have hle := sizeM_take_le m (k + 1)
      obtain ⟨s, hss⟩ : ∃ s, s = sizeM (m.take k) := ⟨_, rfl⟩
      obtain ⟨L, hL⟩ : ∃ L, L = (m.getD k []).length := ⟨_, rfl⟩
      rw [← hss] at hs hcell hrow ⊢
      rw [← hL] at hs hcell hrow
      have hb : q + (s : Int) + (L : Int) ≤ 4611686018427387904 := by omega
      have HS := Lib.hid (And.intro hs hrow)
      clear hs hle hss hL hrow
      go_wp2_with fail
      with_reducible refine (heldIntS_same _ L _ _ HS.out.2 (by omega) hb).mono ?_
      rintro e w1 ⟨rfl, rfl⟩
      go_wp2
      go_round
      case rel => exact ⟨k + 1, by omega, by go_num, by rw [HS.out.1]; go_num⟩
      case measure => simp [intOf]; omega
    · have hkn : k = n := by omega
      subst hkn
      have e2 : sizeM (m.take k) = sizeM m := by rw [HM.out.2]; exact sizeM_all m
      rw [e2]
      clear e2
      go_wp2
      go_ret
      exact ⟨rfl, rfl⟩
end Go.Proofs.Ytgbbidlbdjbilaa

/- Contracts of the laws' own helpers on tables of numbers: copies, comparisons, marks. -/
import Derived.Test.YtngbibaphakifaaDoorLawMat
namespace Go.Proofs.YtngbibaphakifaaDoor
open Go.RowKit

set_option maxHeartbeats 1000000 in
theorem toIntSS_any (v : Value) (m : List (List Int)) (w : World) (h : ReadsRows w v m) (hl : m.length ≤ 1048576) (hs : sizeM m ≤ 1048576) :
    Calls Tryd.prog 13 #[v] w fun e w' => ∃ gs cs, e = .returned (.slice (some ⟨w.heap.size, 0, none⟩) m.length m.length) ∧ MTab w' w.heap.size 22 3 w.heap.size m.length m.length gs cs m ∧ Ext w w' := by
  obtain ⟨a, c, rfl⟩ := h.slice
  obtain ⟨-, hlc, hc⟩ := h.len
  obtain ⟨n, hn⟩ : ∃ n, n = m.length := ⟨_, rfl⟩
  have hrowl := fun i (hi : i < m.length) => sizeM_row m i hi
  rw [← hn] at hlc h hl hrowl ⊢
  have hmk := run_make_row' (P := Tryd.prog) 27 22 (.slice none 0 0) 24 Tryd.underlying27 infoRow rfl .i64 .i64 n (by omega) (by omega)
  have HM := Lib.hid (And.intro h (And.intro hn hrowl))
  clear h hn hrowl
  go_enter Tryd.func13, Tryd.ntmps13
  go_wp2
  go_loopw [4] (fun i wr => ∃ (k : Nat) (gs cs : Nat → Nat), k ≤ n ∧ i = .int .i64 k ∧ MTab wr w.heap.size 22 3 w.heap.size n n gs cs (m.take k) ∧ Ext w wr) (fun i _ => n - (intOf i).toNat)
  case atStart =>
    refine ⟨0, fun _ => 0, fun _ => 0, by omega, rfl, ?_, Ext.alloc _ _⟩
    exact MTab.nil (Own.made w 22 (.slice none 0 0) n (by unfold maxLen; omega)) _ _
  case round =>
    obtain ⟨k, gs, cs, hk, rfl, ht, hx⟩ := hrel
    by_cases hlt : k < n
    · have hkm : k < m.length := by rw [← HM.out.2.1]; exact hlt
      obtain ⟨b, o, a', c', rfl, hcell, hrow⟩ := (HM.out.1.ext hx).at k hkm
      have hrl := HM.out.2.2 k hlt
      have hkl : (m.take k).length = k := by rw [List.length_take]; omega
      have htk : m.take (k + 1) = m.take k ++ [m.getD k []] := by
        rw [List.take_succ_eq_append_getElem hkm]; simp [List.getD_eq_getElem?_getD, List.getElem?_eq_getElem hkm]
      obtain ⟨r, hr⟩ : ∃ r, r = m.getD k [] := ⟨_, rfl⟩
      rw [← hr] at hcell hrow hrl htk
      have HK := Lib.hid (And.intro htk hkl)
      clear htk hkl hr
      go_wp2_with fail
      with_reducible refine (toIntS_any _ r _ hrow (by omega)).mono ?_
      rintro e w1 ⟨rfl, hown, hx1⟩
      have hlt1 := ht.lt
      have hgs := ht.rowlt
      have ht1 := ht.ext hx1
      have hput := ht1.put (by rw [HK.out.2]; exact hlt) (hown.mono hx.size) (by omega) (fun i hi => by have := hgs i hi; omega)
      rw [HK.out.2, ← HK.out.1] at hput
      obtain ⟨v0, hv0⟩ : ∃ v0, w1.cell? ⟨w.heap.size, k, none⟩ = some v0 := by
        obtain ⟨fs, ho, _⟩ := ht1.own
        exact ⟨_, ho.cell k (by have := ho.len; omega)⟩
      have hf0 : w1.frozen? ⟨w.heap.size, k, none⟩ = false := by
        obtain ⟨fs, ho, _⟩ := ht1.own
        exact ho.frozen k
      have hx' := (hx.trans hx1).setCell (p := ⟨w.heap.size, k, none⟩) (Nat.le_refl _) (.slice (some ⟨wr.heap.size, 0, none⟩) r.length r.length)
      have HP := Lib.hid hput
      clear hput hown hrow hcell ht ht1 hx hx1 hgs hlt1
      go_wp2
      go_roundw
      case rel => exact ⟨k + 1, _, _, by omega, by go_num, HP.out, hx'⟩
      case measure => simp [intOf]; omega
    · have hkn : k = n := by omega
      subst hkn
      rw [List.take_of_length_le (by rw [← HM.out.2.1]; exact Nat.le_refl _)] at ht
      go_wp2
      go_ret
      exact ⟨gs, cs, rfl, ht, hx⟩

set_option maxHeartbeats 1000000 in
theorem eqIntS_same (v v' : Value) (xs : List Int) (w : World) (h : ReadsI w v xs) (h' : ReadsI w v' xs) :
    Calls Tryd.prog 10 #[v, v'] w fun e w' => e = .returned (.bool true) ∧ Ext w w' := by
  obtain ⟨a, c, rfl⟩ := h.slice
  obtain ⟨a', c', rfl⟩ := h'.slice
  obtain ⟨-, hlc, hc⟩ := h.len
  obtain ⟨n, hn⟩ : ∃ n, n = xs.length := ⟨_, rfl⟩
  rw [← hn] at hlc h h' ⊢
  have HM := Lib.hid (And.intro h (And.intro h' hn))
  clear h h' hn
  go_enter Tryd.func10, Tryd.ntmps10
  go_wp2
  go_loopw [5] (fun i wr => ∃ k : Nat, k ≤ n ∧ i = .int .i64 k ∧ Ext w wr) (fun i _ => n - (intOf i).toNat)
  case atStart => exact ⟨0, by omega, rfl, Ext.refl _⟩
  case round =>
    obtain ⟨k, hk, rfl, hx⟩ := hrel
    by_cases hlt : k < n
    · have hkm : k < xs.length := by rw [← HM.out.2.2]; exact hlt
      obtain ⟨b, o, rfl, hcell⟩ := (HM.out.1.ext hx).at k hkm
      obtain ⟨b', o', rfl, hcell'⟩ := (HM.out.2.1.ext hx).at k hkm
      obtain ⟨x, hxx⟩ : ∃ x, x = xs.getD k 0 := ⟨_, rfl⟩
      rw [← hxx] at hcell hcell'
      clear hxx
      have hxd : ∀ j, Ext w (wr.drewN j) := fun j => hx.drewN j
      go_wp2
      go_quiet (fail)
      go_wp2
      go_roundw
      case rel => exact ⟨k + 1, by omega, by go_num, hxd _⟩
      case measure => simp [intOf]; omega
    · go_wp2
      go_ret
      exact ⟨rfl, hx⟩

set_option maxHeartbeats 1000000 in
theorem eqIntSS_same (v v' : Value) (m : List (List Int)) (w : World) (h : ReadsRows w v m) (h' : ReadsRows w v' m) :
    Calls Tryd.prog 15 #[v, v'] w fun e w' => e = .returned (.bool true) ∧ Ext w w' := by
  obtain ⟨a, c, rfl⟩ := h.slice
  obtain ⟨a', c', rfl⟩ := h'.slice
  obtain ⟨-, hlc, hc⟩ := h.len
  obtain ⟨n, hn⟩ : ∃ n, n = m.length := ⟨_, rfl⟩
  rw [← hn] at hlc h h' ⊢
  have HM := Lib.hid (And.intro h (And.intro h' hn))
  clear h h' hn
  go_enter Tryd.func15, Tryd.ntmps15
  go_wp2
  go_loopw [5] (fun i wr => ∃ k : Nat, k ≤ n ∧ i = .int .i64 k ∧ Ext w wr) (fun i _ => n - (intOf i).toNat)
  case atStart => exact ⟨0, by omega, rfl, Ext.refl _⟩
  case round =>
    obtain ⟨k, hk, rfl, hx⟩ := hrel
    by_cases hlt : k < n
    · have hkm : k < m.length := by rw [← HM.out.2.2]; exact hlt
      obtain ⟨b, o, a1, c1, rfl, hcell, hrow⟩ := (HM.out.1.ext hx).at k hkm
      obtain ⟨b', o', a1', c1', rfl, hcell', hrow'⟩ := (HM.out.2.1.ext hx).at k hkm
      obtain ⟨r, hr⟩ : ∃ r, r = m.getD k [] := ⟨_, rfl⟩
      rw [← hr] at hcell hcell' hrow hrow'
      have HR := Lib.hid (And.intro hrow hrow')
      clear hr hrow hrow'
      obtain ⟨wq, rfl⟩ : ∃ wq : World, wq = wr := ⟨_, rfl⟩
      go_wp2
      refine wp_region_inv (by kernel_rfl) (.known ?hx5_1_v0 :: .known ?hx5_1_v1 :: .known ?hx5_1_v2 :: .known ?hx5_1_v3 :: .known ?hx5_1_v4 :: .known ?hx5_1_v5 :: .known ?hx5_1_v6 :: .known ?hx5_1_v7 :: .known (.bool true) :: .known ?hx5_1_v9 :: []) rfl (by kernel_rfl) ?hx5_1_s ?hx5_1_p
      case hx5_1_s =>
        intro vs
        refine ⟨fun w' hxw hj => ?_, fun w' hxw hj => ?_, fun w' hxw hj => ?_, fun w' hxw hj => ?_, fun w' hxw hj => ?_, fun w' hxw hj => ?_, fun w' hxw hj => ?_, fun w' hxw hj => ?_, fun w' hxw hj => ?_, fun w' hxw hj => ?_, trivial⟩
        · have hcell := Ext.cell_some hxw hcell
          have hcell' := Ext.cell_some hxw hcell'
          clear hj
          go_simp
          try go_bits
          first | rfl | (rw [if_pos (by omega), if_pos (by omega)]; go_simp; rfl) | (rw [if_pos (by omega)]; go_simp; rfl) | skip
        · have hcell := Ext.cell_some hxw hcell
          have hcell' := Ext.cell_some hxw hcell'
          clear hj
          go_simp
          try go_bits
          first | rfl | (rw [if_pos (by omega), if_pos (by omega)]; go_simp; rfl) | (rw [if_pos (by omega)]; go_simp; rfl) | skip
        · have hcell := Ext.cell_some hxw hcell
          have hcell' := Ext.cell_some hxw hcell'
          clear hj
          go_simp
          try go_bits
          first | rfl | (rw [if_pos (by omega), if_pos (by omega)]; go_simp; rfl) | (rw [if_pos (by omega)]; go_simp; rfl) | skip
        · have hcell := Ext.cell_some hxw hcell
          have hcell' := Ext.cell_some hxw hcell'
          clear hj
          go_simp
          try go_bits
          first | rfl | (rw [if_pos (by omega), if_pos (by omega)]; go_simp; rfl) | (rw [if_pos (by omega)]; go_simp; rfl) | skip
        · have hcell := Ext.cell_some hxw hcell
          have hcell' := Ext.cell_some hxw hcell'
          clear hj
          go_simp
          try go_bits
          first | rfl | (rw [if_pos (by omega), if_pos (by omega)]; go_simp; rfl) | (rw [if_pos (by omega)]; go_simp; rfl) | skip
        · have hcell := Ext.cell_some hxw hcell
          have hcell' := Ext.cell_some hxw hcell'
          clear hj
          go_simp
          try go_bits
          first | rfl | (rw [if_pos (by omega), if_pos (by omega)]; go_simp; rfl) | (rw [if_pos (by omega)]; go_simp; rfl) | skip
        · have hcell := Ext.cell_some hxw hcell
          have hcell' := Ext.cell_some hxw hcell'
          clear hj
          go_simp
          try go_bits
          first | rfl | (rw [if_pos (by omega), if_pos (by omega)]; go_simp; rfl) | (rw [if_pos (by omega)]; go_simp; rfl) | skip
        · have hcell := Ext.cell_some hxw hcell
          have hcell' := Ext.cell_some hxw hcell'
          clear hj
          go_simp
          try go_bits
          first | rfl | (rw [if_pos (by omega), if_pos (by omega)]; go_simp; rfl) | (rw [if_pos (by omega)]; go_simp; rfl) | skip
        · have hcell := Ext.cell_some hxw hcell
          have hcell' := Ext.cell_some hxw hcell'
          clear hj
          go_simp
          try go_bits
          exact eqIntS_same _ _ r _ (HR.out.1.ext hxw) (HR.out.2.ext hxw)
        · have hcell := Ext.cell_some hxw hcell
          have hcell' := Ext.cell_some hxw hcell'
          clear hj
          go_simp
          try go_bits
          first | rfl | (rw [if_pos (by omega), if_pos (by omega)]; go_simp; rfl) | (rw [if_pos (by omega)]; go_simp; rfl) | skip
      case' hx5_1_p =>
        intro vs w5 hx5 hk
        clear hk
        replace hcell := Ext.cell_some hx5 hcell
        replace hcell' := Ext.cell_some hx5 hcell'
        replace hx := Ext.trans hx hx5
        go_simp
        clear hx5
        go_wp2
        go_roundw
        case rel => exact ⟨k + 1, by omega, by go_num, hx⟩
        case measure => simp [intOf]; omega
    · go_wp2
      go_ret
      exact ⟨rfl, hx⟩

end Go.Proofs.YtngbibaphakifaaDoor

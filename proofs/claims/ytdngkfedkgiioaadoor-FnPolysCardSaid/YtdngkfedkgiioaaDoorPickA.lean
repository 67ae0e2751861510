/- Contracts: a part of a table, by the program and by the reference. -/
import Derived.Test.YtdngkfedkgiioaaDoorPkC
import Derived.Test.YtdngkfedkgiioaaDoorPkB
namespace Go.Proofs.YtdngkfedkgiioaaDoor
open Go.RowKit Go.Mx

set_option maxRecDepth 100000 in
set_option maxHeartbeats 4000000 in
theorem impl_picked_any (v v' : Value) (m : List (List Int)) (l : List Int) (n : Nat) (w : World) (h : ReadsRows w v m) (h' : ReadsI w v' l) (hl : l.length ≤ 1000) (hm : m.length = n) (hr : ∀ i, i < n → (m.getD i []).length = n) (hb : ∀ j, j < l.length → ∃ i : Nat, l.getD j 0 = (i : Int) ∧ i < n) :
    Calls Tryd.prog 77 #[v, v'] w fun e w' => ∃ u, e = .returned u ∧ ResM w' w.heap.size u (partL m l) ∧ Ext w w' := by
  obtain ⟨pa, ca, rfl⟩ := h.slice
  obtain ⟨pl, cl, rfl⟩ := h'.slice
  obtain ⟨-, hla1, hla2⟩ := h.len
  obtain ⟨-, hlb1, hlb2⟩ := h'.len
  rw [hm] at h hla1 ⊢
  have hall := partTo_all m l
  obtain ⟨K, hK⟩ : ∃ k, k = l.length := ⟨_, rfl⟩
  have hpl := partL_length m l
  rw [← hK] at h' hl hb hlb1 hall hpl ⊢
  have HM := Lib.hid (And.intro h (And.intro h' (And.intro hm (And.intro hr (And.intro hb (And.intro hK (And.intro hall hpl)))))))
  have hB0 : MTab (w.alloc (.cells #[] 26)) w.heap.size 26 3 w.heap.size 0 0 (fun _ => 0) (fun _ => 0) (partTo m l 0) := MTab.nil (Own.lit w 26 [] (by simp)) _ _
  clear h h' hm hr hb hK hall hpl
  go_enter Tryd.func77, Tryd.ntmps77
  go_wp2
  go_loopw [5, 14] (fun v q wr => ∃ (k g cap : Nat) (gs cs : Nat → Nat), k ≤ K ∧ q = .int .i64 k ∧ v = .slice (some ⟨g, 0, none⟩) k cap ∧ MTab wr w.heap.size 26 3 g k cap gs cs (partTo m l k) ∧ Ext w wr) (fun _ q _ => K - (intOf q).toNat)
  case atStart => exact ⟨0, _, _, _, _, by omega, rfl, rfl, hB0, Ext.alloc _ _⟩
  case round =>
    clear hB0
    obtain ⟨i, g, cap, gs, cs, hi, rfl, rfl, ht, hx⟩ := hrel
    by_cases hlti : i < K
    · obtain ⟨wm, rfl⟩ : ∃ wm : World, wm = wr := ⟨_, rfl⟩
      obtain ⟨i0, hi0, hi0n⟩ := HM.out.2.2.2.2.1 i hlti
      obtain ⟨bl, ol, hpl, hcI⟩ := HM.out.2.1.at i (by rw [← HM.out.2.2.2.2.2.1]; exact hlti)
      subst hpl
      rw [hi0] at hcI
      have hfull := ht.full (partTo_length m l i (by rw [← HM.out.2.2.2.2.2.1]; omega)).symm
      have hgl := ht.lt
      have hgsl := ht.rowlt
      have hv1 : (rowsV gs cs (partTo m l i)).length + 1 ≤ maxLen := by rw [rowsV_length, partTo_length m l i (by rw [← HM.out.2.2.2.2.2.1]; omega)]; unfold maxLen; omega
      have hv2 : ((rowsV gs cs (partTo m l i)).length + 1) * 24 ≤ 140737488355328 := by rw [rowsV_length, partTo_length m l i (by rw [← HM.out.2.2.2.2.2.1]; omega)]; omega
      have HT := Lib.hid (And.intro hfull (And.intro hgl (And.intro hgsl (And.intro ht (And.intro hv1 (And.intro hv2 (And.intro hi0 hcI)))))))
      have hz : Own (wm.alloc (.cells #[] 3)) wm.heap.size 3 (.slice (some ⟨wm.heap.size, 0, none⟩) 0 0) (icells (partRow m l i 0)) := by rw [partRow_zero]; exact Own.lit wm 3 [] (by simp)
      replace hcI := hx.cell_some hcI
      clear ht hfull hgl hgsl hv1 hv2 hi0
      go_wp2
      clear hcI
      go_loopw [8, 21] (fun v q wr => ∃ (k gr cr : Nat), k ≤ K ∧ q = .int .i64 k ∧ v = .slice (some ⟨gr, 0, none⟩) k cr ∧ Own wr wm.heap.size 3 (.slice (some ⟨gr, 0, none⟩) k cr) (icells (partRow m l i k)) ∧ Ext wm wr) (fun _ q _ => K - (intOf q).toNat)
      case atStart => exact ⟨0, _, _, by omega, rfl, rfl, hz, Ext.alloc _ _⟩
      case round =>
        clear hz
        obtain ⟨j, gr, cr, hj, rfl, hsl, hown, hy⟩ := hrel
        subst hsl
        have hsl := True.intro
        by_cases hltj : j < K
        · clear hsl
          obtain ⟨j0, hj0, hj0n⟩ := HM.out.2.2.2.2.1 j hltj
          obtain ⟨_, _, e, hcJ⟩ := HM.out.2.1.at j (by rw [← HM.out.2.2.2.2.2.1]; exact hltj)
          cases e
          rw [hj0] at hcJ
          obtain ⟨bk, o, a', c', hpa, hcR, hrow⟩ := HM.out.1.at i0 (by rw [HM.out.2.2.1]; exact hi0n)
          subst hpa
          have hlr := HM.out.2.2.2.1 i0 hi0n
          obtain ⟨b', o', rfl, hcE⟩ := hrow.at j0 (by rw [hlr]; exact hj0n)
          rw [hlr] at hcR hrow
          have hlc := hrow.len.2.1
          replace hcJ := hy.cell_some (hx.cell_some hcJ)
          replace hcR := hy.cell_some (hx.cell_some hcR)
          replace hcE := hy.cell_some (hx.cell_some hcE)
          have hcI := hy.cell_some (hx.cell_some HT.out.2.2.2.2.2.2.2)
          have hsucc := partRow_succ m l i j (by rw [← HM.out.2.2.2.2.2.1]; exact hltj)
          have e1 : ((i0 : Nat) : Int).toNat = i0 := by omega
          have e2 : ((j0 : Nat) : Int).toNat = j0 := by omega
          rw [HT.out.2.2.2.2.2.2.1, hj0, e1, e2] at hsucc
          have hlen := partRow_length m l i j (by rw [← HM.out.2.2.2.2.2.1]; omega)
          have hu1 : (icells (partRow m l i j)).length + 1 ≤ maxLen := by rw [icells_length, hlen]; unfold maxLen; omega
          have hu2 : ((icells (partRow m l i j)).length + 1) * 8 ≤ 140737488355328 := by rw [icells_length, hlen]; omega
          obtain ⟨x, hxx⟩ : ∃ x, x = (m.getD i0 []).getD j0 0 := ⟨_, rfl⟩
          rw [← hxx] at hcE hsucc
          have HR := Lib.hid (And.intro hown (And.intro hu1 (And.intro hu2 hsucc)))
          clear hown hu1 hu2 hsucc hrow hlr hj0 e1 e2 hxx hlen
          go_wp2_with (at_builtin; refine wpList_append_one rfl (.tmp 25) (.tmp 33) 26 rfl 3 _ _ Tryd.underlying26 infoInt rfl wm.heap.size _ (icells (partRow m l i j)) rfl (HR.out.1.ext (Ext.alloc _ _)) _ _ rfl (by simp; rfl) rfl HR.out.2.1 HR.out.2.2.1 wm rfl (hy.trans (Ext.alloc _ _)) ?_; intro v4 w4 hown4 hx4 hmv4; have H4 := Lib.hid (And.intro hown4 hx4); clear hown4 hx4 hmv4)
          go_roundw
          case rel =>
            have ho := H4.out.1
            rw [icells_snoc, ← HR.out.2.2.2] at ho
            have hl1 := partRow_length m l i (j + 1) (by rw [← HM.out.2.2.2.2.2.1]; omega)
            rcases ho.shape with ⟨_, hn⟩ | ⟨g5, c5, hv5, hg5, _⟩
            · have := congrArg List.length hn
              rw [icells_length, hl1] at this
              simp at this
            · rw [icells_length, hl1] at hv5
              rw [hv5] at ho
              exact ⟨j + 1, g5, c5, by omega, by go_num, hv5, ho, H4.out.2⟩
          case measure => simp [intOf]; omega
        · skip
          have hjK : j = K := by omega
          subst hjK
          have hH := Lib.hid (And.intro hown True.intro)
          clear hown hsl
          go_wp2_with (at_builtin; refine wpList_append_one rfl (.tmp 36) (.tmp 38) 24 rfl 26 _ _ Tryd.underlying24 infoRow rfl w.heap.size _ (rowsV gs cs (partTo m l i)) rfl ((HT.out.1.ext hy).ext (Ext.alloc _ _)) _ _ rfl (by simp; rfl) rfl HT.out.2.2.2.2.1 HT.out.2.2.2.2.2.1 w rfl ((hx.trans hy).trans (Ext.alloc _ _)) ?_; intro v4 w4 hown4 hx4 hmv4; have H4 := Lib.hid (And.intro hown4 (And.intro hx4 hmv4)); clear hown4 hx4 hmv4)
          go_roundw
          case rel =>
            have ht3 := (HT.out.2.2.2.1.ext hy).ext (Ext.alloc _ (.cells #[.slice (some ⟨gr, 0, none⟩) j cr] 26))
            have hlen3 : (partRow m l i j).length = j := partRow_length m l i j (by rw [← HM.out.2.2.2.2.2.1]; exact Nat.le_refl _)
            have hlt3 := hH.out.1.lt
            obtain ⟨g', cap', gs', cs', hv', ht'⟩ := ht3.push (r := partRow m l i j) (gr := gr) (cr := cr) (partTo_length m l i (by rw [← HM.out.2.2.2.2.2.1]; omega)).symm (by rw [hlen3]; exact ((hH.out.1.mono hx.size).ext (Ext.alloc _ _))) (by have := HT.out.2.1; omega) (fun q hq => by have := HT.out.2.2.1 q hq; omega) (by rw [hlen3]; exact H4.out.1) H4.out.2.2
            have e := partTo_succ m l i (by rw [← HM.out.2.2.2.2.2.1]; exact hlti)
            rw [← HM.out.2.2.2.2.2.1] at e
            rw [← e] at ht'
            exact ⟨i + 1, g', cap', gs', cs', by omega, by go_num, hv', ht', H4.out.2.1⟩
          case measure => simp [intOf]; omega
    · have hiK : i = K := by omega
      rw [hiK, HM.out.2.2.2.2.2.2.1] at ht
      have HT := Lib.hid ht
      clear ht
      subst hiK
      go_wp2
      go_ret
      exact ⟨_, rfl, .inr ⟨g, cap, gs, cs, by rw [HM.out.2.2.2.2.2.2.2]; rfl, by rw [HM.out.2.2.2.2.2.2.2]; exact HT.out⟩, hx⟩

set_option maxRecDepth 100000 in
set_option maxHeartbeats 4000000 in
theorem spec_l5Part_any (v v' : Value) (m : List (List Int)) (l : List Int) (n : Nat) (w : World) (h : ReadsRows w v m) (h' : ReadsI w v' l) (hl : l.length ≤ 1000) (hm : m.length = n) (hr : ∀ i, i < n → (m.getD i []).length = n) (hb : ∀ j, j < l.length → ∃ i : Nat, l.getD j 0 = (i : Int) ∧ i < n) :
    Calls Tryd.prog 86 #[v, v'] w fun e w' => ∃ u, e = .returned u ∧ ResM w' w.heap.size u (partL m l) ∧ Ext w w' := by
  obtain ⟨pa, ca, rfl⟩ := h.slice
  obtain ⟨pl, cl, rfl⟩ := h'.slice
  obtain ⟨-, hla1, hla2⟩ := h.len
  obtain ⟨-, hlb1, hlb2⟩ := h'.len
  rw [hm] at h hla1 ⊢
  have hall := partTo_all m l
  obtain ⟨K, hK⟩ : ∃ k, k = l.length := ⟨_, rfl⟩
  have hpl := partL_length m l
  rw [← hK] at h' hl hb hlb1 hall hpl ⊢
  have HM := Lib.hid (And.intro h (And.intro h' (And.intro hm (And.intro hr (And.intro hb (And.intro hK (And.intro hall hpl)))))))
  have hB0 : MTab (w.alloc (.cells #[] 26)) w.heap.size 26 3 w.heap.size 0 0 (fun _ => 0) (fun _ => 0) (partTo m l 0) := MTab.nil (Own.lit w 26 [] (by simp)) _ _
  clear h h' hm hr hb hK hall hpl
  go_enter Tryd.func86, Tryd.ntmps86
  go_wp2
  go_loopw [5, 6] (fun v q wr => ∃ (k g cap : Nat) (gs cs : Nat → Nat), k ≤ K ∧ q = .int .i64 k ∧ v = .slice (some ⟨g, 0, none⟩) k cap ∧ MTab wr w.heap.size 26 3 g k cap gs cs (partTo m l k) ∧ Ext w wr) (fun _ q _ => K - (intOf q).toNat)
  case atStart => exact ⟨0, _, _, _, _, by omega, rfl, rfl, hB0, Ext.alloc _ _⟩
  case round =>
    clear hB0
    obtain ⟨i, g, cap, gs, cs, hi, rfl, rfl, ht, hx⟩ := hrel
    by_cases hlti : i < K
    · obtain ⟨wm, rfl⟩ : ∃ wm : World, wm = wr := ⟨_, rfl⟩
      obtain ⟨i0, hi0, hi0n⟩ := HM.out.2.2.2.2.1 i hlti
      obtain ⟨bl, ol, hpl, hcI⟩ := HM.out.2.1.at i (by rw [← HM.out.2.2.2.2.2.1]; exact hlti)
      subst hpl
      rw [hi0] at hcI
      have hfull := ht.full (partTo_length m l i (by rw [← HM.out.2.2.2.2.2.1]; omega)).symm
      have hgl := ht.lt
      have hgsl := ht.rowlt
      have hv1 : (rowsV gs cs (partTo m l i)).length + 1 ≤ maxLen := by rw [rowsV_length, partTo_length m l i (by rw [← HM.out.2.2.2.2.2.1]; omega)]; unfold maxLen; omega
      have hv2 : ((rowsV gs cs (partTo m l i)).length + 1) * 24 ≤ 140737488355328 := by rw [rowsV_length, partTo_length m l i (by rw [← HM.out.2.2.2.2.2.1]; omega)]; omega
      have HT := Lib.hid (And.intro hfull (And.intro hgl (And.intro hgsl (And.intro ht (And.intro hv1 (And.intro hv2 (And.intro hi0 hcI)))))))
      have hz : Own (wm.alloc (.cells #[] 3)) wm.heap.size 3 (.slice (some ⟨wm.heap.size, 0, none⟩) 0 0) (icells (partRow m l i 0)) := by rw [partRow_zero]; exact Own.lit wm 3 [] (by simp)
      replace hcI := hx.cell_some hcI
      clear ht hfull hgl hgsl hv1 hv2 hi0
      clear hcI
      go_wp2
      go_loopw [7, 8] (fun v q wr => ∃ (k gr cr : Nat), k ≤ K ∧ q = .int .i64 k ∧ v = .slice (some ⟨gr, 0, none⟩) k cr ∧ Own wr wm.heap.size 3 (.slice (some ⟨gr, 0, none⟩) k cr) (icells (partRow m l i k)) ∧ Ext wm wr) (fun _ q _ => K - (intOf q).toNat)
      case atStart => exact ⟨0, _, _, by omega, rfl, rfl, hz, Ext.alloc _ _⟩
      case round =>
        clear hz
        obtain ⟨j, gr, cr, hj, rfl, hsl, hown, hy⟩ := hrel
        subst hsl
        have hsl := True.intro
        by_cases hltj : j < K
        · clear hsl
          obtain ⟨j0, hj0, hj0n⟩ := HM.out.2.2.2.2.1 j hltj
          obtain ⟨_, _, e, hcJ⟩ := HM.out.2.1.at j (by rw [← HM.out.2.2.2.2.2.1]; exact hltj)
          cases e
          rw [hj0] at hcJ
          obtain ⟨bk, o, a', c', hpa, hcR, hrow⟩ := HM.out.1.at i0 (by rw [HM.out.2.2.1]; exact hi0n)
          subst hpa
          have hlr := HM.out.2.2.2.1 i0 hi0n
          obtain ⟨b', o', rfl, hcE⟩ := hrow.at j0 (by rw [hlr]; exact hj0n)
          rw [hlr] at hcR hrow
          have hlc := hrow.len.2.1
          replace hcJ := hy.cell_some (hx.cell_some hcJ)
          replace hcR := hy.cell_some (hx.cell_some hcR)
          replace hcE := hy.cell_some (hx.cell_some hcE)
          have hcI := hy.cell_some (hx.cell_some HT.out.2.2.2.2.2.2.2)
          have hsucc := partRow_succ m l i j (by rw [← HM.out.2.2.2.2.2.1]; exact hltj)
          have e1 : ((i0 : Nat) : Int).toNat = i0 := by omega
          have e2 : ((j0 : Nat) : Int).toNat = j0 := by omega
          rw [HT.out.2.2.2.2.2.2.1, hj0, e1, e2] at hsucc
          have hlen := partRow_length m l i j (by rw [← HM.out.2.2.2.2.2.1]; omega)
          have hu1 : (icells (partRow m l i j)).length + 1 ≤ maxLen := by rw [icells_length, hlen]; unfold maxLen; omega
          have hu2 : ((icells (partRow m l i j)).length + 1) * 8 ≤ 140737488355328 := by rw [icells_length, hlen]; omega
          obtain ⟨x, hxx⟩ : ∃ x, x = (m.getD i0 []).getD j0 0 := ⟨_, rfl⟩
          rw [← hxx] at hcE hsucc
          have HR := Lib.hid (And.intro hown (And.intro hu1 (And.intro hu2 hsucc)))
          clear hown hu1 hu2 hsucc hrow hlr hj0 e1 e2 hxx hlen
          go_wp2
          refine wp_region_tail (by kernel_rfl) 15 (.known ?hx8_15_v0 :: .known ?hx8_15_v1 :: .known ?hx8_15_v2 :: .known ?hx8_15_v3 :: .known ?hx8_15_v4 :: .known ?hx8_15_v5 :: .known ?hx8_15_v6 :: .known ?hx8_15_v7 :: .known ?hx8_15_v8 :: .known ?hx8_15_v9 :: .known ?hx8_15_v10 :: .known ?hx8_15_v11 :: .known ?hx8_15_v12 :: .known ?hx8_15_v13 :: .box ?hx8_15_v14 :: []) rfl (by decide) (by kernel_rfl) (by kernel_rfl) ?hx8_15_s ?hx8_15_p
          case hx8_15_s =>
            intro vs
            refine ⟨fun w' hxw hj => ?_, fun w' hxw hj => ?_, fun w' hxw hj => ?_, fun w' hxw hj => ?_, fun w' hxw hj => ?_, fun w' hxw hj => ?_, fun w' hxw hj => ?_, fun w' hxw hj => ?_, fun w' hxw hj => ?_, fun w' hxw hj => ?_, fun w' hxw hj => ?_, fun w' hxw hj => ?_, fun w' hxw hj => ?_, fun w' hxw hj => ?_, fun w' hxw hj => ?_, trivial⟩
            · have hcI := Ext.cell_some hxw hcI
              have hcJ := Ext.cell_some hxw hcJ
              have hcR := Ext.cell_some hxw hcR
              have hcE := Ext.cell_some hxw hcE
              clear hj
              go_simp
              try go_bits
              first | rfl | (rw [if_pos (by omega), if_pos (by omega)]; go_simp; rfl) | (rw [if_pos (by omega)]; go_simp; rfl) | skip
            · have hcI := Ext.cell_some hxw hcI
              have hcJ := Ext.cell_some hxw hcJ
              have hcR := Ext.cell_some hxw hcR
              have hcE := Ext.cell_some hxw hcE
              clear hj
              go_simp
              try go_bits
              first | rfl | (rw [if_pos (by omega), if_pos (by omega)]; go_simp; rfl) | (rw [if_pos (by omega)]; go_simp; rfl) | skip
            · have hcI := Ext.cell_some hxw hcI
              have hcJ := Ext.cell_some hxw hcJ
              have hcR := Ext.cell_some hxw hcR
              have hcE := Ext.cell_some hxw hcE
              clear hj
              go_simp
              try go_bits
              first | rfl | (rw [if_pos (by omega), if_pos (by omega)]; go_simp; rfl) | (rw [if_pos (by omega)]; go_simp; rfl) | skip
            · have hcI := Ext.cell_some hxw hcI
              have hcJ := Ext.cell_some hxw hcJ
              have hcR := Ext.cell_some hxw hcR
              have hcE := Ext.cell_some hxw hcE
              clear hj
              go_simp
              try go_bits
              first | rfl | (rw [if_pos (by omega), if_pos (by omega)]; go_simp; rfl) | (rw [if_pos (by omega)]; go_simp; rfl) | skip
            · have hcI := Ext.cell_some hxw hcI
              have hcJ := Ext.cell_some hxw hcJ
              have hcR := Ext.cell_some hxw hcR
              have hcE := Ext.cell_some hxw hcE
              clear hj
              go_simp
              try go_bits
              first | rfl | (rw [if_pos (by omega), if_pos (by omega)]; go_simp; rfl) | (rw [if_pos (by omega)]; go_simp; rfl) | skip
            · have hcI := Ext.cell_some hxw hcI
              have hcJ := Ext.cell_some hxw hcJ
              have hcR := Ext.cell_some hxw hcR
              have hcE := Ext.cell_some hxw hcE
              clear hj
              go_simp
              try go_bits
              first | rfl | (rw [if_pos (by omega), if_pos (by omega)]; go_simp; rfl) | (rw [if_pos (by omega)]; go_simp; rfl) | skip
            · have hcI := Ext.cell_some hxw hcI
              have hcJ := Ext.cell_some hxw hcJ
              have hcR := Ext.cell_some hxw hcR
              have hcE := Ext.cell_some hxw hcE
              clear hj
              go_simp
              try go_bits
              first | rfl | (rw [if_pos (by omega), if_pos (by omega)]; go_simp; rfl) | (rw [if_pos (by omega)]; go_simp; rfl) | skip
            · have hcI := Ext.cell_some hxw hcI
              have hcJ := Ext.cell_some hxw hcJ
              have hcR := Ext.cell_some hxw hcR
              have hcE := Ext.cell_some hxw hcE
              clear hj
              go_simp
              try go_bits
              first | rfl | (rw [if_pos (by omega), if_pos (by omega)]; go_simp; rfl) | (rw [if_pos (by omega)]; go_simp; rfl) | skip
            · have hcI := Ext.cell_some hxw hcI
              have hcJ := Ext.cell_some hxw hcJ
              have hcR := Ext.cell_some hxw hcR
              have hcE := Ext.cell_some hxw hcE
              clear hj
              go_simp
              try go_bits
              first | rfl | (rw [if_pos (by omega), if_pos (by omega)]; go_simp; rfl) | (rw [if_pos (by omega)]; go_simp; rfl) | skip
            · have hcI := Ext.cell_some hxw hcI
              have hcJ := Ext.cell_some hxw hcJ
              have hcR := Ext.cell_some hxw hcR
              have hcE := Ext.cell_some hxw hcE
              clear hj
              go_simp
              try go_bits
              first | rfl | (rw [if_pos (by omega), if_pos (by omega)]; go_simp; rfl) | (rw [if_pos (by omega)]; go_simp; rfl) | skip
            · have hcI := Ext.cell_some hxw hcI
              have hcJ := Ext.cell_some hxw hcJ
              have hcR := Ext.cell_some hxw hcR
              have hcE := Ext.cell_some hxw hcE
              clear hj
              go_simp
              try go_bits
              first | rfl | (rw [if_pos (by omega), if_pos (by omega)]; go_simp; rfl) | (rw [if_pos (by omega)]; go_simp; rfl) | skip
            · have hcI := Ext.cell_some hxw hcI
              have hcJ := Ext.cell_some hxw hcJ
              have hcR := Ext.cell_some hxw hcR
              have hcE := Ext.cell_some hxw hcE
              clear hj
              go_simp
              try go_bits
              first | rfl | (rw [if_pos (by omega), if_pos (by omega)]; go_simp; rfl) | (rw [if_pos (by omega)]; go_simp; rfl) | skip
            · have hcI := Ext.cell_some hxw hcI
              have hcJ := Ext.cell_some hxw hcJ
              have hcR := Ext.cell_some hxw hcR
              have hcE := Ext.cell_some hxw hcE
              clear hj
              go_simp
              try go_bits
              first | rfl | (rw [if_pos (by omega), if_pos (by omega)]; go_simp; rfl) | (rw [if_pos (by omega)]; go_simp; rfl) | skip
            · have hcI := Ext.cell_some hxw hcI
              have hcJ := Ext.cell_some hxw hcJ
              have hcR := Ext.cell_some hxw hcR
              have hcE := Ext.cell_some hxw hcE
              clear hj
              go_simp
              try go_bits
              first | rfl | (rw [if_pos (by omega), if_pos (by omega)]; go_simp; rfl) | (rw [if_pos (by omega)]; go_simp; rfl) | skip
            · have hcI := Ext.cell_some hxw hcI
              have hcJ := Ext.cell_some hxw hcJ
              have hcR := Ext.cell_some hxw hcR
              have hcE := Ext.cell_some hxw hcE
              clear hj
              go_simp
              try go_bits
              exact boxOf_new _ _ _
          case' hx8_15_p =>
            intro vs w8 hx8 hk
            have k14 : BoxOf _ (vs 14) w8 := hk 14 _ rfl
            clear hk
            replace hcI := Ext.cell_some hx8 hcI
            replace hcJ := Ext.cell_some hx8 hcJ
            replace hcR := Ext.cell_some hx8 hcR
            replace hcE := Ext.cell_some hx8 hcE
            replace hy := Ext.trans hy hx8
            go_simp
            obtain ⟨bx, hbx, hcx⟩ := k14
            rw [hbx]
            have hH8 := Lib.hid hx8
            clear hbx hx8 hcI hcJ hcR hcE
            go_wp2_with (at_builtin; refine wpList_append_one rfl (.tmp 23) (.tmp 37) 26 rfl 3 _ _ Tryd.underlying26 infoInt rfl wm.heap.size _ (icells (partRow m l i j)) rfl (HR.out.1.ext hH8.out) bx _ rfl hcx rfl HR.out.2.1 HR.out.2.2.1 wm rfl hy ?_; intro v4 w4 hown4 hx4 hmv4; have H4 := Lib.hid (And.intro hown4 hx4); clear hown4 hx4 hmv4)
            go_roundw
            case rel =>
              have ho := H4.out.1
              rw [icells_snoc, ← HR.out.2.2.2] at ho
              have hl1 := partRow_length m l i (j + 1) (by rw [← HM.out.2.2.2.2.2.1]; omega)
              rcases ho.shape with ⟨_, hn⟩ | ⟨g5, c5, hv5, hg5, _⟩
              · have := congrArg List.length hn
                rw [icells_length, hl1] at this
                simp at this
              · rw [icells_length, hl1] at hv5
                rw [hv5] at ho
                exact ⟨j + 1, g5, c5, by omega, by go_num, hv5, ho, H4.out.2⟩
            case measure => simp [intOf]; omega
        · skip
          have hjK : j = K := by omega
          subst hjK
          have hH := Lib.hid (And.intro hown True.intro)
          clear hown hsl
          go_wp2_with (at_builtin; refine wpList_append_one rfl (.tmp 39) (.tmp 41) 24 rfl 26 _ _ Tryd.underlying24 infoRow rfl w.heap.size _ (rowsV gs cs (partTo m l i)) rfl ((HT.out.1.ext hy).ext (Ext.alloc _ _)) _ _ rfl (by simp; rfl) rfl HT.out.2.2.2.2.1 HT.out.2.2.2.2.2.1 w rfl ((hx.trans hy).trans (Ext.alloc _ _)) ?_; intro v4 w4 hown4 hx4 hmv4; have H4 := Lib.hid (And.intro hown4 (And.intro hx4 hmv4)); clear hown4 hx4 hmv4)
          go_roundw
          case rel =>
            have ht3 := (HT.out.2.2.2.1.ext hy).ext (Ext.alloc _ (.cells #[.slice (some ⟨gr, 0, none⟩) j cr] 26))
            have hlen3 : (partRow m l i j).length = j := partRow_length m l i j (by rw [← HM.out.2.2.2.2.2.1]; exact Nat.le_refl _)
            have hlt3 := hH.out.1.lt
            obtain ⟨g', cap', gs', cs', hv', ht'⟩ := ht3.push (r := partRow m l i j) (gr := gr) (cr := cr) (partTo_length m l i (by rw [← HM.out.2.2.2.2.2.1]; omega)).symm (by rw [hlen3]; exact ((hH.out.1.mono hx.size).ext (Ext.alloc _ _))) (by have := HT.out.2.1; omega) (fun q hq => by have := HT.out.2.2.1 q hq; omega) (by rw [hlen3]; exact H4.out.1) H4.out.2.2
            have e := partTo_succ m l i (by rw [← HM.out.2.2.2.2.2.1]; exact hlti)
            rw [← HM.out.2.2.2.2.2.1] at e
            rw [← e] at ht'
            exact ⟨i + 1, g', cap', gs', cs', by omega, by go_num, hv', ht', H4.out.2.1⟩
          case measure => simp [intOf]; omega
    · have hiK : i = K := by omega
      rw [hiK, HM.out.2.2.2.2.2.2.1] at ht
      have HT := Lib.hid ht
      clear ht
      subst hiK
      go_wp2
      go_ret
      exact ⟨_, rfl, .inr ⟨g, cap, gs, cs, by rw [HM.out.2.2.2.2.2.2.2]; rfl, by rw [HM.out.2.2.2.2.2.2.2]; exact HT.out⟩, hx⟩
end Go.Proofs.YtdngkfedkgiioaaDoor

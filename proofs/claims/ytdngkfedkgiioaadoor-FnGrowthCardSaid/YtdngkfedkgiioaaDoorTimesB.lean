/- Contracts: products of tables, by the reference; the matrix of ones on the diagonal. -/
import Derived.Test.YtdngkfedkgiioaaDoorTimesA
namespace Go.Proofs.YtdngkfedkgiioaaDoor
open Go.RowKit Go.Mx

set_option maxRecDepth 100000 in
set_option maxHeartbeats 8000000 in
theorem spec_l4Times_any (v v' : Value) (a b : List (List Int)) (n : Nat) (w : World) (h : ReadsRows w v a) (h' : ReadsRows w v' b) (ha : IsM n a) (hb : IsM n b) :
    Calls Tryd.prog 95 #[v, v', .int .i64 n] w fun e w' => ∃ u, e = .returned u ∧ ReadsRows w' u (mulM n a b) ∧ Ext w w' := by
  obtain ⟨pa, ca, rfl⟩ := h.slice
  obtain ⟨pb, cb, rfl⟩ := h'.slice
  obtain ⟨-, hla1, hla2⟩ := h.len
  obtain ⟨-, hlb1, hlb2⟩ := h'.len
  have hpn := ha.pos
  have hn9 := ha.le
  have hdb := fun i j k => dotTo_bd (F := at2 a) (G := at2 b) (fun i j => ha.at2_bd i j) (fun i j => hb.at2_bd i j) i j k
  have hA : ∀ i j, at2 a i j = (a.getD i []).getD j 0 := fun i j => rfl
  have hB : ∀ i j, at2 b i j = (b.getD i []).getD j 0 := fun i j => rfl
  have hml := mulM_length n a b
  have hmM : mulM n a b = tabF n n (dotTo (at2 a) (at2 b) n) := rfl
  have hAb := fun i j => ha.at2_bd i j
  have hBb := fun i j => hb.at2_bd i j
  rw [ha.len] at h hla1 ⊢
  rw [hb.len] at h' hlb1 ⊢
  obtain ⟨F, hF⟩ : ∃ F, F = at2 a := ⟨_, rfl⟩
  obtain ⟨G, hG⟩ : ∃ F, F = at2 b := ⟨_, rfl⟩
  rw [← hF, ← hG] at hdb hmM
  rw [← hF] at hA hAb
  rw [← hG] at hB hBb
  have hz := spec_l4Zero_any n n w (by omega) (by omega)
  rw [← cellTo_zero F G n] at hz
  have HM := Lib.hid (And.intro h (And.intro h' (And.intro ha (And.intro hb hz))))
  have HF := Lib.hid (And.intro hdb (And.intro hA (And.intro hB (And.intro hml (And.intro hmM (And.intro hAb hBb))))))
  clear h h' ha hb hdb hA hB hml hmM hF hG hAb hBb hz
  go_enter Tryd.func95, Tryd.ntmps95
  go_wp2_with (go_at_call 50; with_reducible refine HM.out.2.2.2.2.mono ?_; rintro e w1 ⟨g, cap, gs, cs, rfl, ht, hx⟩)
  go_loopw [8] (fun q wr => ∃ k : Nat, k ≤ n ∧ q = .int .i64 k ∧ MTab wr w.heap.size 26 3 g n cap gs cs (tabF n n (cellTo F G n k 0 0)) ∧ Ext w wr) (fun q _ => n - (intOf q).toNat)
  case atStart => exact ⟨0, by omega, rfl, ht, hx⟩
  case round =>
    clear ht hx
    obtain ⟨i, hi, rfl, ht, hx⟩ := hrel
    by_cases hlti : i < n
    · go_wp2
      go_loopw [9] (fun q wr => ∃ k : Nat, k ≤ n ∧ q = .int .i64 k ∧ MTab wr w.heap.size 26 3 g n cap gs cs (tabF n n (cellTo F G n i k 0)) ∧ Ext w wr) (fun q _ => n - (intOf q).toNat)
      case atStart => exact ⟨0, by omega, rfl, ht, hx⟩
      case round =>
        clear ht hx
        obtain ⟨j, hj, rfl, ht, hx⟩ := hrel
        by_cases hltj : j < n
        · go_wp2
          go_loopw [10] (fun q wr => ∃ k : Nat, k ≤ n ∧ q = .int .i64 k ∧ MTab wr w.heap.size 26 3 g n cap gs cs (tabF n n (cellTo F G n i j k)) ∧ Ext w wr) (fun q _ => n - (intOf q).toNat)
          case atStart => exact ⟨0, by omega, rfl, ht, hx⟩
          case round =>
            clear ht hx
            obtain ⟨k, hk, rfl, ht, hx⟩ := hrel
            by_cases hltk : k < n
            · obtain ⟨bk, o, a', c', hpa1, hcA, hrow⟩ := HM.out.1.at i (by rw [HM.out.2.2.1.len]; exact hlti)
              obtain ⟨b', o', ha'1, hcA'⟩ := hrow.at k (by rw [HM.out.2.2.1.row i hlti]; exact hltk)
              obtain ⟨bk2, o2, a2, c2, hpb1, hcB, hrow2⟩ := HM.out.2.1.at k (by rw [HM.out.2.2.2.1.len]; exact hltk)
              obtain ⟨b2, o2', ha2, hcB'⟩ := hrow2.at j (by rw [HM.out.2.2.2.1.row k hltk]; exact hltj)
              subst hpa1; subst ha'1; subst hpb1; subst ha2
              rw [HM.out.2.2.1.row i hlti] at hcA hrow
              rw [HM.out.2.2.2.1.row k hltk] at hcB hrow2
              have hlc := hrow.len.2.1
              have hlc2 := hrow2.len.2.1
              rw [← HF.out.2.1] at hcA'
              rw [← HF.out.2.2.1] at hcB'
              replace hcA := hx.cell_some hcA
              replace hcA' := hx.cell_some hcA'
              replace hcB := hx.cell_some hcB
              replace hcB' := hx.cell_some hcB'
              obtain ⟨hx1, hx2⟩ := HF.out.2.2.2.2.2.1 i k
              obtain ⟨hy1, hy2⟩ := HF.out.2.2.2.2.2.2 k j
              obtain ⟨hs1, hs2⟩ := HF.out.1 i j k
              have hset := cellTo_set F G n n n i j k hlti
              have hkR : i < (tabF n n (cellTo F G n i j k)).length := by rw [tabF_length]; exact hlti
              have hsp := ht.spot i hkR
              have hcp := (ht.row i hkR).caps.1
              have hat := ht.at i j hkR (by rw [tabF_row_length hlti]; exact hltj)
              rw [cellTo_at F G n n n i j k hlti hltj] at hat
              rw [tabF_row_length hlti] at hsp hcp
              obtain ⟨x, hxx⟩ : ∃ x, x = F i k := ⟨_, rfl⟩
              obtain ⟨y, hyy⟩ : ∃ y, y = G k j := ⟨_, rfl⟩
              obtain ⟨s, hss⟩ : ∃ s, s = dotTo F G k i j := ⟨_, rfl⟩
              rw [← hxx] at hcA' hx1 hx2 hset
              rw [← hyy] at hcB' hy1 hy2 hset
              rw [← hss] at hat hs1 hs2 hset
              have hxy := mul_bd (x := x) (y := y) (a := 1000000) (b := 1000000) (by omega) hx2 (by omega) hy2
              obtain ⟨hxy1, hxy2⟩ := hxy
              have hs3 : s ≤ 9000000000000 := by omega
              have HT := Lib.hid (And.intro ht (And.intro hkR hset))
              clear ht hkR hset hxx hyy hss hrow hrow2 hs2
              go_wp2
              refine wp_region_tail (by kernel_rfl) 29 (.known ?hx8_12_v0 :: .known ?hx8_12_v1 :: .known ?hx8_12_v2 :: .known ?hx8_12_v3 :: .known ?hx8_12_v4 :: .known ?hx8_12_v5 :: .known ?hx8_12_v6 :: .known ?hx8_12_v7 :: .known ?hx8_12_v8 :: .known ?hx8_12_v9 :: .known ?hx8_12_v10 :: .known ?hx8_12_v11 :: .known ?hx8_12_v12 :: .known ?hx8_12_v13 :: .known ?hx8_12_v14 :: .known ?hx8_12_v15 :: .known ?hx8_12_v16 :: .known ?hx8_12_v17 :: .known ?hx8_12_v18 :: .known ?hx8_12_v19 :: .known ?hx8_12_v20 :: .known ?hx8_12_v21 :: .known ?hx8_12_v22 :: .known ?hx8_12_v23 :: .known ?hx8_12_v24 :: .known ?hx8_12_v25 :: .known ?hx8_12_v26 :: .known ?hx8_12_v27 :: .known ?hx8_12_v28 :: []) rfl (by decide) (by kernel_rfl) (by kernel_rfl) ?hx8_12_s ?hx8_12_p
              case hx8_12_s =>
                intro vs
                refine ⟨fun w' hxw hj => ?_, fun w' hxw hj => ?_, fun w' hxw hj => ?_, fun w' hxw hj => ?_, fun w' hxw hj => ?_, fun w' hxw hj => ?_, fun w' hxw hj => ?_, fun w' hxw hj => ?_, fun w' hxw hj => ?_, fun w' hxw hj => ?_, fun w' hxw hj => ?_, fun w' hxw hj => ?_, fun w' hxw hj => ?_, fun w' hxw hj => ?_, fun w' hxw hj => ?_, fun w' hxw hj => ?_, fun w' hxw hj => ?_, fun w' hxw hj => ?_, fun w' hxw hj => ?_, fun w' hxw hj => ?_, fun w' hxw hj => ?_, fun w' hxw hj => ?_, fun w' hxw hj => ?_, fun w' hxw hj => ?_, fun w' hxw hj => ?_, fun w' hxw hj => ?_, fun w' hxw hj => ?_, fun w' hxw hj => ?_, fun w' hxw hj => ?_, trivial⟩
                · have hcA := Ext.cell_some hxw hcA
                  have hcA' := Ext.cell_some hxw hcA'
                  have hcB := Ext.cell_some hxw hcB
                  have hcB' := Ext.cell_some hxw hcB'
                  have hsp := Ext.cell_some hxw hsp
                  have hat := Ext.cell_some hxw hat
                  clear hj
                  go_simp
                  try go_bits
                  first | rfl | (rw [if_pos (by omega), if_pos (by omega)]; go_simp; rfl) | (rw [if_pos (by omega)]; go_simp; rfl) | skip
                · have hcA := Ext.cell_some hxw hcA
                  have hcA' := Ext.cell_some hxw hcA'
                  have hcB := Ext.cell_some hxw hcB
                  have hcB' := Ext.cell_some hxw hcB'
                  have hsp := Ext.cell_some hxw hsp
                  have hat := Ext.cell_some hxw hat
                  clear hj
                  go_simp
                  try go_bits
                  first | rfl | (rw [if_pos (by omega), if_pos (by omega)]; go_simp; rfl) | (rw [if_pos (by omega)]; go_simp; rfl) | skip
                · have hcA := Ext.cell_some hxw hcA
                  have hcA' := Ext.cell_some hxw hcA'
                  have hcB := Ext.cell_some hxw hcB
                  have hcB' := Ext.cell_some hxw hcB'
                  have hsp := Ext.cell_some hxw hsp
                  have hat := Ext.cell_some hxw hat
                  clear hj
                  go_simp
                  try go_bits
                  first | rfl | (rw [if_pos (by omega), if_pos (by omega)]; go_simp; rfl) | (rw [if_pos (by omega)]; go_simp; rfl) | skip
                · have hcA := Ext.cell_some hxw hcA
                  have hcA' := Ext.cell_some hxw hcA'
                  have hcB := Ext.cell_some hxw hcB
                  have hcB' := Ext.cell_some hxw hcB'
                  have hsp := Ext.cell_some hxw hsp
                  have hat := Ext.cell_some hxw hat
                  clear hj
                  go_simp
                  try go_bits
                  first | rfl | (rw [if_pos (by omega), if_pos (by omega)]; go_simp; rfl) | (rw [if_pos (by omega)]; go_simp; rfl) | skip
                · have hcA := Ext.cell_some hxw hcA
                  have hcA' := Ext.cell_some hxw hcA'
                  have hcB := Ext.cell_some hxw hcB
                  have hcB' := Ext.cell_some hxw hcB'
                  have hsp := Ext.cell_some hxw hsp
                  have hat := Ext.cell_some hxw hat
                  clear hj
                  go_simp
                  try go_bits
                  first | rfl | (rw [if_pos (by omega), if_pos (by omega)]; go_simp; rfl) | (rw [if_pos (by omega)]; go_simp; rfl) | skip
                · have hcA := Ext.cell_some hxw hcA
                  have hcA' := Ext.cell_some hxw hcA'
                  have hcB := Ext.cell_some hxw hcB
                  have hcB' := Ext.cell_some hxw hcB'
                  have hsp := Ext.cell_some hxw hsp
                  have hat := Ext.cell_some hxw hat
                  clear hj
                  go_simp
                  try go_bits
                  first | rfl | (rw [if_pos (by omega), if_pos (by omega)]; go_simp; rfl) | (rw [if_pos (by omega)]; go_simp; rfl) | skip
                · have hcA := Ext.cell_some hxw hcA
                  have hcA' := Ext.cell_some hxw hcA'
                  have hcB := Ext.cell_some hxw hcB
                  have hcB' := Ext.cell_some hxw hcB'
                  have hsp := Ext.cell_some hxw hsp
                  have hat := Ext.cell_some hxw hat
                  clear hj
                  go_simp
                  try go_bits
                  first | rfl | (rw [if_pos (by omega), if_pos (by omega)]; go_simp; rfl) | (rw [if_pos (by omega)]; go_simp; rfl) | skip
                · have hcA := Ext.cell_some hxw hcA
                  have hcA' := Ext.cell_some hxw hcA'
                  have hcB := Ext.cell_some hxw hcB
                  have hcB' := Ext.cell_some hxw hcB'
                  have hsp := Ext.cell_some hxw hsp
                  have hat := Ext.cell_some hxw hat
                  clear hj
                  go_simp
                  try go_bits
                  first | rfl | (rw [if_pos (by omega), if_pos (by omega)]; go_simp; rfl) | (rw [if_pos (by omega)]; go_simp; rfl) | skip
                · have hcA := Ext.cell_some hxw hcA
                  have hcA' := Ext.cell_some hxw hcA'
                  have hcB := Ext.cell_some hxw hcB
                  have hcB' := Ext.cell_some hxw hcB'
                  have hsp := Ext.cell_some hxw hsp
                  have hat := Ext.cell_some hxw hat
                  clear hj
                  go_simp
                  try go_bits
                  first | rfl | (rw [if_pos (by omega), if_pos (by omega)]; go_simp; rfl) | (rw [if_pos (by omega)]; go_simp; rfl) | skip
                · have hcA := Ext.cell_some hxw hcA
                  have hcA' := Ext.cell_some hxw hcA'
                  have hcB := Ext.cell_some hxw hcB
                  have hcB' := Ext.cell_some hxw hcB'
                  have hsp := Ext.cell_some hxw hsp
                  have hat := Ext.cell_some hxw hat
                  clear hj
                  go_simp
                  try go_bits
                  first | rfl | (rw [if_pos (by omega), if_pos (by omega)]; go_simp; rfl) | (rw [if_pos (by omega)]; go_simp; rfl) | skip
                · have hcA := Ext.cell_some hxw hcA
                  have hcA' := Ext.cell_some hxw hcA'
                  have hcB := Ext.cell_some hxw hcB
                  have hcB' := Ext.cell_some hxw hcB'
                  have hsp := Ext.cell_some hxw hsp
                  have hat := Ext.cell_some hxw hat
                  clear hj
                  go_simp
                  try go_bits
                  first | rfl | (rw [if_pos (by omega), if_pos (by omega)]; go_simp; rfl) | (rw [if_pos (by omega)]; go_simp; rfl) | skip
                · have hcA := Ext.cell_some hxw hcA
                  have hcA' := Ext.cell_some hxw hcA'
                  have hcB := Ext.cell_some hxw hcB
                  have hcB' := Ext.cell_some hxw hcB'
                  have hsp := Ext.cell_some hxw hsp
                  have hat := Ext.cell_some hxw hat
                  clear hj
                  go_simp
                  try go_bits
                  first | rfl | (rw [if_pos (by omega), if_pos (by omega)]; go_simp; rfl) | (rw [if_pos (by omega)]; go_simp; rfl) | skip
                · have hcA := Ext.cell_some hxw hcA
                  have hcA' := Ext.cell_some hxw hcA'
                  have hcB := Ext.cell_some hxw hcB
                  have hcB' := Ext.cell_some hxw hcB'
                  have hsp := Ext.cell_some hxw hsp
                  have hat := Ext.cell_some hxw hat
                  clear hj
                  go_simp
                  try go_bits
                  first | rfl | (rw [if_pos (by omega), if_pos (by omega)]; go_simp; rfl) | (rw [if_pos (by omega)]; go_simp; rfl) | skip
                · have hcA := Ext.cell_some hxw hcA
                  have hcA' := Ext.cell_some hxw hcA'
                  have hcB := Ext.cell_some hxw hcB
                  have hcB' := Ext.cell_some hxw hcB'
                  have hsp := Ext.cell_some hxw hsp
                  have hat := Ext.cell_some hxw hat
                  clear hj
                  go_simp
                  try go_bits
                  first | rfl | (rw [if_pos (by omega), if_pos (by omega)]; go_simp; rfl) | (rw [if_pos (by omega)]; go_simp; rfl) | skip
                · have hcA := Ext.cell_some hxw hcA
                  have hcA' := Ext.cell_some hxw hcA'
                  have hcB := Ext.cell_some hxw hcB
                  have hcB' := Ext.cell_some hxw hcB'
                  have hsp := Ext.cell_some hxw hsp
                  have hat := Ext.cell_some hxw hat
                  clear hj
                  go_simp
                  try go_bits
                  first | rfl | (rw [if_pos (by omega), if_pos (by omega)]; go_simp; rfl) | (rw [if_pos (by omega)]; go_simp; rfl) | skip
                · have hcA := Ext.cell_some hxw hcA
                  have hcA' := Ext.cell_some hxw hcA'
                  have hcB := Ext.cell_some hxw hcB
                  have hcB' := Ext.cell_some hxw hcB'
                  have hsp := Ext.cell_some hxw hsp
                  have hat := Ext.cell_some hxw hat
                  clear hj
                  go_simp
                  try go_bits
                  first | rfl | (rw [if_pos (by omega), if_pos (by omega)]; go_simp; rfl) | (rw [if_pos (by omega)]; go_simp; rfl) | skip
                · have hcA := Ext.cell_some hxw hcA
                  have hcA' := Ext.cell_some hxw hcA'
                  have hcB := Ext.cell_some hxw hcB
                  have hcB' := Ext.cell_some hxw hcB'
                  have hsp := Ext.cell_some hxw hsp
                  have hat := Ext.cell_some hxw hat
                  clear hj
                  go_simp
                  try go_bits
                  first | rfl | (rw [if_pos (by omega), if_pos (by omega)]; go_simp; rfl) | (rw [if_pos (by omega)]; go_simp; rfl) | skip
                · have hcA := Ext.cell_some hxw hcA
                  have hcA' := Ext.cell_some hxw hcA'
                  have hcB := Ext.cell_some hxw hcB
                  have hcB' := Ext.cell_some hxw hcB'
                  have hsp := Ext.cell_some hxw hsp
                  have hat := Ext.cell_some hxw hat
                  clear hj
                  go_simp
                  try go_bits
                  first | rfl | (rw [if_pos (by omega), if_pos (by omega)]; go_simp; rfl) | (rw [if_pos (by omega)]; go_simp; rfl) | skip
                · have hcA := Ext.cell_some hxw hcA
                  have hcA' := Ext.cell_some hxw hcA'
                  have hcB := Ext.cell_some hxw hcB
                  have hcB' := Ext.cell_some hxw hcB'
                  have hsp := Ext.cell_some hxw hsp
                  have hat := Ext.cell_some hxw hat
                  clear hj
                  go_simp
                  try go_bits
                  first | rfl | (rw [if_pos (by omega), if_pos (by omega)]; go_simp; rfl) | (rw [if_pos (by omega)]; go_simp; rfl) | skip
                · have hcA := Ext.cell_some hxw hcA
                  have hcA' := Ext.cell_some hxw hcA'
                  have hcB := Ext.cell_some hxw hcB
                  have hcB' := Ext.cell_some hxw hcB'
                  have hsp := Ext.cell_some hxw hsp
                  have hat := Ext.cell_some hxw hat
                  clear hj
                  go_simp
                  try go_bits
                  first | rfl | (rw [if_pos (by omega), if_pos (by omega)]; go_simp; rfl) | (rw [if_pos (by omega)]; go_simp; rfl) | skip
                · have hcA := Ext.cell_some hxw hcA
                  have hcA' := Ext.cell_some hxw hcA'
                  have hcB := Ext.cell_some hxw hcB
                  have hcB' := Ext.cell_some hxw hcB'
                  have hsp := Ext.cell_some hxw hsp
                  have hat := Ext.cell_some hxw hat
                  clear hj
                  go_simp
                  try go_bits
                  first | rfl | (rw [if_pos (by omega), if_pos (by omega)]; go_simp; rfl) | (rw [if_pos (by omega)]; go_simp; rfl) | skip
                · have hcA := Ext.cell_some hxw hcA
                  have hcA' := Ext.cell_some hxw hcA'
                  have hcB := Ext.cell_some hxw hcB
                  have hcB' := Ext.cell_some hxw hcB'
                  have hsp := Ext.cell_some hxw hsp
                  have hat := Ext.cell_some hxw hat
                  clear hj
                  go_simp
                  try go_bits
                  first | rfl | (rw [if_pos (by omega), if_pos (by omega)]; go_simp; rfl) | (rw [if_pos (by omega)]; go_simp; rfl) | skip
                · have hcA := Ext.cell_some hxw hcA
                  have hcA' := Ext.cell_some hxw hcA'
                  have hcB := Ext.cell_some hxw hcB
                  have hcB' := Ext.cell_some hxw hcB'
                  have hsp := Ext.cell_some hxw hsp
                  have hat := Ext.cell_some hxw hat
                  clear hj
                  go_simp
                  try go_bits
                  first | rfl | (rw [if_pos (by omega), if_pos (by omega)]; go_simp; rfl) | (rw [if_pos (by omega)]; go_simp; rfl) | skip
                · have hcA := Ext.cell_some hxw hcA
                  have hcA' := Ext.cell_some hxw hcA'
                  have hcB := Ext.cell_some hxw hcB
                  have hcB' := Ext.cell_some hxw hcB'
                  have hsp := Ext.cell_some hxw hsp
                  have hat := Ext.cell_some hxw hat
                  clear hj
                  go_simp
                  try go_bits
                  first | rfl | (rw [if_pos (by omega), if_pos (by omega)]; go_simp; rfl) | (rw [if_pos (by omega)]; go_simp; rfl) | skip
                · have hcA := Ext.cell_some hxw hcA
                  have hcA' := Ext.cell_some hxw hcA'
                  have hcB := Ext.cell_some hxw hcB
                  have hcB' := Ext.cell_some hxw hcB'
                  have hsp := Ext.cell_some hxw hsp
                  have hat := Ext.cell_some hxw hat
                  clear hj
                  go_simp
                  try go_bits
                  first | rfl | (rw [if_pos (by omega), if_pos (by omega)]; go_simp; rfl) | (rw [if_pos (by omega)]; go_simp; rfl) | skip
                · have hcA := Ext.cell_some hxw hcA
                  have hcA' := Ext.cell_some hxw hcA'
                  have hcB := Ext.cell_some hxw hcB
                  have hcB' := Ext.cell_some hxw hcB'
                  have hsp := Ext.cell_some hxw hsp
                  have hat := Ext.cell_some hxw hat
                  clear hj
                  go_simp
                  try go_bits
                  first | rfl | (rw [if_pos (by omega), if_pos (by omega)]; go_simp; rfl) | (rw [if_pos (by omega)]; go_simp; rfl) | skip
                · have hcA := Ext.cell_some hxw hcA
                  have hcA' := Ext.cell_some hxw hcA'
                  have hcB := Ext.cell_some hxw hcB
                  have hcB' := Ext.cell_some hxw hcB'
                  have hsp := Ext.cell_some hxw hsp
                  have hat := Ext.cell_some hxw hat
                  clear hj
                  go_simp
                  try go_bits
                  first | rfl | (rw [if_pos (by omega), if_pos (by omega)]; go_simp; rfl) | (rw [if_pos (by omega)]; go_simp; rfl) | skip
                · have hcA := Ext.cell_some hxw hcA
                  have hcA' := Ext.cell_some hxw hcA'
                  have hcB := Ext.cell_some hxw hcB
                  have hcB' := Ext.cell_some hxw hcB'
                  have hsp := Ext.cell_some hxw hsp
                  have hat := Ext.cell_some hxw hat
                  clear hj
                  go_simp
                  try go_bits
                  first | rfl | (rw [if_pos (by omega), if_pos (by omega)]; go_simp; rfl) | (rw [if_pos (by omega)]; go_simp; rfl) | skip
                · have hcA := Ext.cell_some hxw hcA
                  have hcA' := Ext.cell_some hxw hcA'
                  have hcB := Ext.cell_some hxw hcB
                  have hcB' := Ext.cell_some hxw hcB'
                  have hsp := Ext.cell_some hxw hsp
                  have hat := Ext.cell_some hxw hat
                  clear hj
                  go_simp
                  try go_bits
                  first | rfl | (rw [if_pos (by omega), if_pos (by omega)]; go_simp; rfl) | (rw [if_pos (by omega)]; go_simp; rfl) | skip
              case' hx8_12_p =>
                intro vs w8 hx8 hk
                clear hk
                replace hcA := Ext.cell_some hx8 hcA
                replace hcA' := Ext.cell_some hx8 hcA'
                replace hcB := Ext.cell_some hx8 hcB
                replace hcB' := Ext.cell_some hx8 hcB'
                replace hsp := Ext.cell_some hx8 hsp
                replace hat := Ext.cell_some hx8 hat
                replace hx := Ext.trans hx hx8
                go_simp
                have ht8 := HT.out.1.ext hx8
                have hf8 := ht8.frozen i j HT.out.2.1
                have hs8 := ht8.set i j HT.out.2.1 (s + x * y)
                rw [HT.out.2.2] at hs8
                have hx9 := hx.setCell (p := ⟨gs i, j, none⟩) (ht8.rowlt i HT.out.2.1).1 (.int .i64 (s + x * y))
                have H8 := Lib.hid (And.intro hs8 hx9)
                clear ht8 hs8 hx9 hx8 hx
                go_wp2
                go_roundw
                case rel => exact ⟨k + 1, by omega, by go_num, H8.out.1, H8.out.2⟩
                case measure => simp [intOf]; omega
            · have hkn : k = n := by omega
              rw [hkn, cellTo_col] at ht
              subst hkn
              go_wp2
              go_roundw
              case rel => exact ⟨j + 1, by omega, by go_num, ht, hx⟩
              case measure => simp [intOf]; omega
        · have hjn : j = n := by omega
          rw [hjn, cellTo_row] at ht
          subst hjn
          go_wp2
          go_roundw
          case rel => exact ⟨i + 1, by omega, by go_num, ht, hx⟩
          case measure => simp [intOf]; omega
    · have hin : i = n := by omega
      rw [hin, cellTo_all, ← HF.out.2.2.2.2.1] at ht
      subst hin
      have HR := Lib.hid (ht.reads HF.out.2.2.2.1.symm)
      clear ht
      go_wp2
      go_ret
      exact ⟨_, rfl, HR.out, hx⟩

set_option maxHeartbeats 2000000 in
theorem spec_l4One_any (n : Nat) (w : World) (hn : n ≤ 1000) :
    Calls Tryd.prog 79 #[.int .i64 n] w fun e w' => ∃ u, e = .returned u ∧ ResM w' w.heap.size u (unitM n) ∧ Ext w w' := by
  have hz0 : tabF n n (fun _ _ => 0) = tabF n n (maskF (upB 0) idF) := unit_zero
  have hset := fun i (hi : i < n) => unit_set hi
  have hall := unit_all (n := n)
  have hul : (unitM n).length = n := tabF_length _ _ _
  have hz := spec_l4Zero_any n n w hn hn
  rw [hz0] at hz
  have HZ := Lib.hid (And.intro hz (And.intro hset (And.intro hall hul)))
  clear hz0 hz hset hall hul
  go_enter Tryd.func79, Tryd.ntmps79
  go_wp2_with (go_at_call 50; with_reducible refine HZ.out.1.mono ?_; rintro e w1 ⟨g, cap, gs, cs, rfl, ht, hx⟩)
  go_loopw [4] (fun q wr => ∃ k : Nat, k ≤ n ∧ q = .int .i64 k ∧ MTab wr w.heap.size 26 3 g n cap gs cs (tabF n n (maskF (upB k) idF)) ∧ Ext w wr) (fun q _ => n - (intOf q).toNat)
  case atStart => exact ⟨0, by omega, rfl, ht, hx⟩
  case round =>
    clear ht hx
    obtain ⟨i, hi, rfl, ht, hx⟩ := hrel
    by_cases hlti : i < n
    · have hkR : i < (tabF n n (maskF (upB i) idF)).length := by rw [tabF_length]; exact hlti
      have hsp := ht.spot i hkR
      have hcp := (ht.row i hkR).caps.1
      have hat := ht.at i i hkR (by rw [tabF_row_length hlti]; exact hlti)
      have hf := ht.frozen i i hkR
      rw [tabF_row_length hlti] at hsp hcp
      have hst := ht.set i i hkR 1
      rw [HZ.out.2.1 i hlti] at hst
      have hx9 := hx.setCell (p := ⟨gs i, i, none⟩) (ht.rowlt i hkR).1 (.int .i64 1)
      have H8 := Lib.hid (And.intro hst hx9)
      clear hst hx9 ht hx hkR
      go_wp2
      go_roundw
      case rel => exact ⟨i + 1, by omega, by go_num, H8.out.1, H8.out.2⟩
      case measure => simp [intOf]; omega
    · have hin : i = n := by omega
      rw [hin, HZ.out.2.2.1] at ht
      subst hin
      have HT := Lib.hid ht
      clear ht
      go_wp2
      go_ret
      exact ⟨_, rfl, .inr ⟨g, cap, gs, cs, by rw [HZ.out.2.2.2]; rfl, by rw [HZ.out.2.2.2]; exact HT.out⟩, hx⟩
end Go.Proofs.YtdngkfedkgiioaaDoor

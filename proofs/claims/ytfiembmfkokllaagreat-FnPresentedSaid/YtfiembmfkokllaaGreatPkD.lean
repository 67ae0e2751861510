/- Several texts of mine in one: TimesA, TimesB, PowA, PowB, SumA, CodeA, WordA, Made, Frame, CodeB. -/
import Derived.Test.YtfiembmfkokllaaGreatPkC
import Derived.Test.YtfiembmfkokllaaGreatPkB
import Derived.Test.YtfiembmfkokllaaGreatPkA
import Derived.BigQuiet
/- Contracts: products of tables, by the program and by the reference. -/
namespace Go.Proofs.YtfiembmfkokllaaGreat
open Go.RowKit Go.Mx

end Go.Proofs.YtfiembmfkokllaaGreat

/- Contracts: products of tables, by the reference; the matrix of ones on the diagonal. -/
namespace Go.Proofs.YtfiembmfkokllaaGreat
open Go.RowKit Go.Mx

set_option maxRecDepth 100000 in
set_option maxHeartbeats 8000000 in
theorem spec_l4Times_any (v v' : Value) (a b : List (List Int)) (n : Nat) (w : World) (h : ReadsRows w v a) (h' : ReadsRows w v' b) (ha : IsM n a) (hb : IsM n b) :
    Calls Tryz.prog 54 #[v, v', .int .i64 n] w fun e w' => ∃ u, e = .returned u ∧ ReadsRows w' u (mulM n a b) ∧ Ext w w' := by
  obtain ⟨pa, ca, rfl⟩ := h.slice
  obtain ⟨pb, cb, rfl⟩ := h'.slice
  obtain ⟨-, hla1, hla2⟩ := h.len
  obtain ⟨-, hlb1, hlb2⟩ := h'.len
  have hpn := ha.pos
  have hn9 := ha.le
  have hdb := fun i j k => dotTo_bd (F := at2 a) (G := at2 b) (fun i j => ha.at2_bd i j) (fun i j => hb.at2_bd i j) i j k
  have hA : ∀ i j, at2 a i j = (a.getD i []).getD j 0 := fun i j => rfl
  have hB : ∀ i j, at2 b i j = (b.getD i []).getD j 0 := fun i j => rfl
  have hml := mulM_length n a b
  have hmM : mulM n a b = tabF n n (dotTo (at2 a) (at2 b) n) := rfl
  have hAb := fun i j => ha.at2_bd i j
  have hBb := fun i j => hb.at2_bd i j
  rw [ha.len] at h hla1 ⊢
  rw [hb.len] at h' hlb1 ⊢
  obtain ⟨F, hF⟩ : ∃ F, F = at2 a := ⟨_, rfl⟩
  obtain ⟨G, hG⟩ : ∃ F, F = at2 b := ⟨_, rfl⟩
  rw [← hF, ← hG] at hdb hmM
  rw [← hF] at hA hAb
  rw [← hG] at hB hBb
  have hz := spec_l4Zero_any n n w (by omega) (by omega)
  rw [← cellTo_zero F G n] at hz
  have HM := Lib.hid (And.intro h (And.intro h' (And.intro ha (And.intro hb hz))))
  have HF := Lib.hid (And.intro hdb (And.intro hA (And.intro hB (And.intro hml (And.intro hmM (And.intro hAb hBb))))))
  clear h h' ha hb hdb hA hB hml hmM hF hG hAb hBb hz
  go_enter Tryz.func54, Tryz.ntmps54
  go_wp2_with (go_at_call 37; with_reducible refine HM.out.2.2.2.2.mono ?_; rintro e w1 ⟨g, cap, gs, cs, rfl, ht, hx⟩)
  go_loopw [8] (fun q wr => ∃ k : Nat, k ≤ n ∧ q = .int .i64 k ∧ MTab wr w.heap.size 52 3 g n cap gs cs (tabF n n (cellTo F G n k 0 0)) ∧ Ext w wr) (fun q _ => n - (intOf q).toNat)
  case atStart => exact ⟨0, by omega, rfl, ht, hx⟩
  case round =>
    clear ht hx
    obtain ⟨i, hi, rfl, ht, hx⟩ := hrel
    by_cases hlti : i < n
    · go_wp2
      go_loopw [9] (fun q wr => ∃ k : Nat, k ≤ n ∧ q = .int .i64 k ∧ MTab wr w.heap.size 52 3 g n cap gs cs (tabF n n (cellTo F G n i k 0)) ∧ Ext w wr) (fun q _ => n - (intOf q).toNat)
      case atStart => exact ⟨0, by omega, rfl, ht, hx⟩
      case round =>
        clear ht hx
        obtain ⟨j, hj, rfl, ht, hx⟩ := hrel
        by_cases hltj : j < n
        · go_wp2
          go_loopw [10] (fun q wr => ∃ k : Nat, k ≤ n ∧ q = .int .i64 k ∧ MTab wr w.heap.size 52 3 g n cap gs cs (tabF n n (cellTo F G n i j k)) ∧ Ext w wr) (fun q _ => n - (intOf q).toNat)
          case atStart => exact ⟨0, by omega, rfl, ht, hx⟩
          case round =>
            clear ht hx
            obtain ⟨k, hk, rfl, ht, hx⟩ := hrel
            by_cases hltk : k < n
            · obtain ⟨bk, o, a', c', hpa1, hcA, hrow⟩ := HM.out.1.at i (by rw [HM.out.2.2.1.len]; exact hlti)
              obtain ⟨b', o', ha'1, hcA'⟩ := hrow.at k (by rw [HM.out.2.2.1.row i hlti]; exact hltk)
              obtain ⟨bk2, o2, a2, c2, hpb1, hcB, hrow2⟩ := HM.out.2.1.at k (by rw [HM.out.2.2.2.1.len]; exact hltk)
              obtain ⟨b2, o2', ha2, hcB'⟩ := hrow2.at j (by rw [HM.out.2.2.2.1.row k hltk]; exact hltj)
              subst hpa1; subst ha'1; subst hpb1; subst ha2
              rw [HM.out.2.2.1.row i hlti] at hcA hrow
              rw [HM.out.2.2.2.1.row k hltk] at hcB hrow2
              have hlc := hrow.len.2.1
              have hlc2 := hrow2.len.2.1
              rw [← HF.out.2.1] at hcA'
              rw [← HF.out.2.2.1] at hcB'
              replace hcA := hx.cell_some hcA
              replace hcA' := hx.cell_some hcA'
              replace hcB := hx.cell_some hcB
              replace hcB' := hx.cell_some hcB'
              obtain ⟨hx1, hx2⟩ := HF.out.2.2.2.2.2.1 i k
              obtain ⟨hy1, hy2⟩ := HF.out.2.2.2.2.2.2 k j
              obtain ⟨hs1, hs2⟩ := HF.out.1 i j k
              have hset := cellTo_set F G n n n i j k hlti
              have hkR : i < (tabF n n (cellTo F G n i j k)).length := by rw [tabF_length]; exact hlti
              have hsp := ht.spot i hkR
              have hcp := (ht.row i hkR).caps.1
              have hat := ht.at i j hkR (by rw [tabF_row_length hlti]; exact hltj)
              rw [cellTo_at F G n n n i j k hlti hltj] at hat
              rw [tabF_row_length hlti] at hsp hcp
              obtain ⟨x, hxx⟩ : ∃ x, x = F i k := ⟨_, rfl⟩
              obtain ⟨y, hyy⟩ : ∃ y, y = G k j := ⟨_, rfl⟩
              obtain ⟨s, hss⟩ : ∃ s, s = dotTo F G k i j := ⟨_, rfl⟩
              rw [← hxx] at hcA' hx1 hx2 hset
              rw [← hyy] at hcB' hy1 hy2 hset
              rw [← hss] at hat hs1 hs2 hset
              have hxy := mul_bd (x := x) (y := y) (a := 1000000) (b := 1000000) (by omega) hx2 (by omega) hy2
              obtain ⟨hxy1, hxy2⟩ := hxy
              have hs3 : s ≤ 9000000000000 := by omega
              have HT := Lib.hid (And.intro ht (And.intro hkR hset))
              clear ht hkR hset hxx hyy hss hrow hrow2 hs2
              go_wp2
              refine wp_region_tail (by kernel_rfl) 29 (.known ?hx8_39_v0 :: .known ?hx8_39_v1 :: .known ?hx8_39_v2 :: .known ?hx8_39_v3 :: .known ?hx8_39_v4 :: .known ?hx8_39_v5 :: .known ?hx8_39_v6 :: .known ?hx8_39_v7 :: .known ?hx8_39_v8 :: .known ?hx8_39_v9 :: .known ?hx8_39_v10 :: .known ?hx8_39_v11 :: .known ?hx8_39_v12 :: .known ?hx8_39_v13 :: .known ?hx8_39_v14 :: .known ?hx8_39_v15 :: .known ?hx8_39_v16 :: .known ?hx8_39_v17 :: .known ?hx8_39_v18 :: .known ?hx8_39_v19 :: .known ?hx8_39_v20 :: .known ?hx8_39_v21 :: .known ?hx8_39_v22 :: .known ?hx8_39_v23 :: .known ?hx8_39_v24 :: .known ?hx8_39_v25 :: .known ?hx8_39_v26 :: .known ?hx8_39_v27 :: .known ?hx8_39_v28 :: []) rfl (by decide) (by kernel_rfl) (by kernel_rfl) ?hx8_39_s ?hx8_39_p
              case hx8_39_s =>
                intro vs
                refine ⟨fun w' hxw hj => ?_, fun w' hxw hj => ?_, fun w' hxw hj => ?_, fun w' hxw hj => ?_, fun w' hxw hj => ?_, fun w' hxw hj => ?_, fun w' hxw hj => ?_, fun w' hxw hj => ?_, fun w' hxw hj => ?_, fun w' hxw hj => ?_, fun w' hxw hj => ?_, fun w' hxw hj => ?_, fun w' hxw hj => ?_, fun w' hxw hj => ?_, fun w' hxw hj => ?_, fun w' hxw hj => ?_, fun w' hxw hj => ?_, fun w' hxw hj => ?_, fun w' hxw hj => ?_, fun w' hxw hj => ?_, fun w' hxw hj => ?_, fun w' hxw hj => ?_, fun w' hxw hj => ?_, fun w' hxw hj => ?_, fun w' hxw hj => ?_, fun w' hxw hj => ?_, fun w' hxw hj => ?_, fun w' hxw hj => ?_, fun w' hxw hj => ?_, trivial⟩
                · have hcA := Ext.cell_some hxw hcA
                  have hcA' := Ext.cell_some hxw hcA'
                  have hcB := Ext.cell_some hxw hcB
                  have hcB' := Ext.cell_some hxw hcB'
                  have hsp := Ext.cell_some hxw hsp
                  have hat := Ext.cell_some hxw hat
                  clear hj
                  go_simp
                  try go_bits
                  first | rfl | (rw [if_pos (by omega), if_pos (by omega)]; go_simp; rfl) | (rw [if_pos (by omega)]; go_simp; rfl) | skip
                · have hcA := Ext.cell_some hxw hcA
                  have hcA' := Ext.cell_some hxw hcA'
                  have hcB := Ext.cell_some hxw hcB
                  have hcB' := Ext.cell_some hxw hcB'
                  have hsp := Ext.cell_some hxw hsp
                  have hat := Ext.cell_some hxw hat
                  clear hj
                  go_simp
                  try go_bits
                  first | rfl | (rw [if_pos (by omega), if_pos (by omega)]; go_simp; rfl) | (rw [if_pos (by omega)]; go_simp; rfl) | skip
                · have hcA := Ext.cell_some hxw hcA
                  have hcA' := Ext.cell_some hxw hcA'
                  have hcB := Ext.cell_some hxw hcB
                  have hcB' := Ext.cell_some hxw hcB'
                  have hsp := Ext.cell_some hxw hsp
                  have hat := Ext.cell_some hxw hat
                  clear hj
                  go_simp
                  try go_bits
                  first | rfl | (rw [if_pos (by omega), if_pos (by omega)]; go_simp; rfl) | (rw [if_pos (by omega)]; go_simp; rfl) | skip
                · have hcA := Ext.cell_some hxw hcA
                  have hcA' := Ext.cell_some hxw hcA'
                  have hcB := Ext.cell_some hxw hcB
                  have hcB' := Ext.cell_some hxw hcB'
                  have hsp := Ext.cell_some hxw hsp
                  have hat := Ext.cell_some hxw hat
                  clear hj
                  go_simp
                  try go_bits
                  first | rfl | (rw [if_pos (by omega), if_pos (by omega)]; go_simp; rfl) | (rw [if_pos (by omega)]; go_simp; rfl) | skip
                · have hcA := Ext.cell_some hxw hcA
                  have hcA' := Ext.cell_some hxw hcA'
                  have hcB := Ext.cell_some hxw hcB
                  have hcB' := Ext.cell_some hxw hcB'
                  have hsp := Ext.cell_some hxw hsp
                  have hat := Ext.cell_some hxw hat
                  clear hj
                  go_simp
                  try go_bits
                  first | rfl | (rw [if_pos (by omega), if_pos (by omega)]; go_simp; rfl) | (rw [if_pos (by omega)]; go_simp; rfl) | skip
                · have hcA := Ext.cell_some hxw hcA
                  have hcA' := Ext.cell_some hxw hcA'
                  have hcB := Ext.cell_some hxw hcB
                  have hcB' := Ext.cell_some hxw hcB'
                  have hsp := Ext.cell_some hxw hsp
                  have hat := Ext.cell_some hxw hat
                  clear hj
                  go_simp
                  try go_bits
                  first | rfl | (rw [if_pos (by omega), if_pos (by omega)]; go_simp; rfl) | (rw [if_pos (by omega)]; go_simp; rfl) | skip
                · have hcA := Ext.cell_some hxw hcA
                  have hcA' := Ext.cell_some hxw hcA'
                  have hcB := Ext.cell_some hxw hcB
                  have hcB' := Ext.cell_some hxw hcB'
                  have hsp := Ext.cell_some hxw hsp
                  have hat := Ext.cell_some hxw hat
                  clear hj
                  go_simp
                  try go_bits
                  first | rfl | (rw [if_pos (by omega), if_pos (by omega)]; go_simp; rfl) | (rw [if_pos (by omega)]; go_simp; rfl) | skip
                · have hcA := Ext.cell_some hxw hcA
                  have hcA' := Ext.cell_some hxw hcA'
                  have hcB := Ext.cell_some hxw hcB
                  have hcB' := Ext.cell_some hxw hcB'
                  have hsp := Ext.cell_some hxw hsp
                  have hat := Ext.cell_some hxw hat
                  clear hj
                  go_simp
                  try go_bits
                  first | rfl | (rw [if_pos (by omega), if_pos (by omega)]; go_simp; rfl) | (rw [if_pos (by omega)]; go_simp; rfl) | skip
                · have hcA := Ext.cell_some hxw hcA
                  have hcA' := Ext.cell_some hxw hcA'
                  have hcB := Ext.cell_some hxw hcB
                  have hcB' := Ext.cell_some hxw hcB'
                  have hsp := Ext.cell_some hxw hsp
                  have hat := Ext.cell_some hxw hat
                  clear hj
                  go_simp
                  try go_bits
                  first | rfl | (rw [if_pos (by omega), if_pos (by omega)]; go_simp; rfl) | (rw [if_pos (by omega)]; go_simp; rfl) | skip
                · have hcA := Ext.cell_some hxw hcA
                  have hcA' := Ext.cell_some hxw hcA'
                  have hcB := Ext.cell_some hxw hcB
                  have hcB' := Ext.cell_some hxw hcB'
                  have hsp := Ext.cell_some hxw hsp
                  have hat := Ext.cell_some hxw hat
                  clear hj
                  go_simp
                  try go_bits
                  first | rfl | (rw [if_pos (by omega), if_pos (by omega)]; go_simp; rfl) | (rw [if_pos (by omega)]; go_simp; rfl) | skip
                · have hcA := Ext.cell_some hxw hcA
                  have hcA' := Ext.cell_some hxw hcA'
                  have hcB := Ext.cell_some hxw hcB
                  have hcB' := Ext.cell_some hxw hcB'
                  have hsp := Ext.cell_some hxw hsp
                  have hat := Ext.cell_some hxw hat
                  clear hj
                  go_simp
                  try go_bits
                  first | rfl | (rw [if_pos (by omega), if_pos (by omega)]; go_simp; rfl) | (rw [if_pos (by omega)]; go_simp; rfl) | skip
                · have hcA := Ext.cell_some hxw hcA
                  have hcA' := Ext.cell_some hxw hcA'
                  have hcB := Ext.cell_some hxw hcB
                  have hcB' := Ext.cell_some hxw hcB'
                  have hsp := Ext.cell_some hxw hsp
                  have hat := Ext.cell_some hxw hat
                  clear hj
                  go_simp
                  try go_bits
                  first | rfl | (rw [if_pos (by omega), if_pos (by omega)]; go_simp; rfl) | (rw [if_pos (by omega)]; go_simp; rfl) | skip
                · have hcA := Ext.cell_some hxw hcA
                  have hcA' := Ext.cell_some hxw hcA'
                  have hcB := Ext.cell_some hxw hcB
                  have hcB' := Ext.cell_some hxw hcB'
                  have hsp := Ext.cell_some hxw hsp
                  have hat := Ext.cell_some hxw hat
                  clear hj
                  go_simp
                  try go_bits
                  first | rfl | (rw [if_pos (by omega), if_pos (by omega)]; go_simp; rfl) | (rw [if_pos (by omega)]; go_simp; rfl) | skip
                · have hcA := Ext.cell_some hxw hcA
                  have hcA' := Ext.cell_some hxw hcA'
                  have hcB := Ext.cell_some hxw hcB
                  have hcB' := Ext.cell_some hxw hcB'
                  have hsp := Ext.cell_some hxw hsp
                  have hat := Ext.cell_some hxw hat
                  clear hj
                  go_simp
                  try go_bits
                  first | rfl | (rw [if_pos (by omega), if_pos (by omega)]; go_simp; rfl) | (rw [if_pos (by omega)]; go_simp; rfl) | skip
                · have hcA := Ext.cell_some hxw hcA
                  have hcA' := Ext.cell_some hxw hcA'
                  have hcB := Ext.cell_some hxw hcB
                  have hcB' := Ext.cell_some hxw hcB'
                  have hsp := Ext.cell_some hxw hsp
                  have hat := Ext.cell_some hxw hat
                  clear hj
                  go_simp
                  try go_bits
                  first | rfl | (rw [if_pos (by omega), if_pos (by omega)]; go_simp; rfl) | (rw [if_pos (by omega)]; go_simp; rfl) | skip
                · have hcA := Ext.cell_some hxw hcA
                  have hcA' := Ext.cell_some hxw hcA'
                  have hcB := Ext.cell_some hxw hcB
                  have hcB' := Ext.cell_some hxw hcB'
                  have hsp := Ext.cell_some hxw hsp
                  have hat := Ext.cell_some hxw hat
                  clear hj
                  go_simp
                  try go_bits
                  first | rfl | (rw [if_pos (by omega), if_pos (by omega)]; go_simp; rfl) | (rw [if_pos (by omega)]; go_simp; rfl) | skip
                · have hcA := Ext.cell_some hxw hcA
                  have hcA' := Ext.cell_some hxw hcA'
                  have hcB := Ext.cell_some hxw hcB
                  have hcB' := Ext.cell_some hxw hcB'
                  have hsp := Ext.cell_some hxw hsp
                  have hat := Ext.cell_some hxw hat
                  clear hj
                  go_simp
                  try go_bits
                  first | rfl | (rw [if_pos (by omega), if_pos (by omega)]; go_simp; rfl) | (rw [if_pos (by omega)]; go_simp; rfl) | skip
                · have hcA := Ext.cell_some hxw hcA
                  have hcA' := Ext.cell_some hxw hcA'
                  have hcB := Ext.cell_some hxw hcB
                  have hcB' := Ext.cell_some hxw hcB'
                  have hsp := Ext.cell_some hxw hsp
                  have hat := Ext.cell_some hxw hat
                  clear hj
                  go_simp
                  try go_bits
                  first | rfl | (rw [if_pos (by omega), if_pos (by omega)]; go_simp; rfl) | (rw [if_pos (by omega)]; go_simp; rfl) | skip
                · have hcA := Ext.cell_some hxw hcA
                  have hcA' := Ext.cell_some hxw hcA'
                  have hcB := Ext.cell_some hxw hcB
                  have hcB' := Ext.cell_some hxw hcB'
                  have hsp := Ext.cell_some hxw hsp
                  have hat := Ext.cell_some hxw hat
                  clear hj
                  go_simp
                  try go_bits
                  first | rfl | (rw [if_pos (by omega), if_pos (by omega)]; go_simp; rfl) | (rw [if_pos (by omega)]; go_simp; rfl) | skip
                · have hcA := Ext.cell_some hxw hcA
                  have hcA' := Ext.cell_some hxw hcA'
                  have hcB := Ext.cell_some hxw hcB
                  have hcB' := Ext.cell_some hxw hcB'
                  have hsp := Ext.cell_some hxw hsp
                  have hat := Ext.cell_some hxw hat
                  clear hj
                  go_simp
                  try go_bits
                  first | rfl | (rw [if_pos (by omega), if_pos (by omega)]; go_simp; rfl) | (rw [if_pos (by omega)]; go_simp; rfl) | skip
                · have hcA := Ext.cell_some hxw hcA
                  have hcA' := Ext.cell_some hxw hcA'
                  have hcB := Ext.cell_some hxw hcB
                  have hcB' := Ext.cell_some hxw hcB'
                  have hsp := Ext.cell_some hxw hsp
                  have hat := Ext.cell_some hxw hat
                  clear hj
                  go_simp
                  try go_bits
                  first | rfl | (rw [if_pos (by omega), if_pos (by omega)]; go_simp; rfl) | (rw [if_pos (by omega)]; go_simp; rfl) | skip
                · have hcA := Ext.cell_some hxw hcA
                  have hcA' := Ext.cell_some hxw hcA'
                  have hcB := Ext.cell_some hxw hcB
                  have hcB' := Ext.cell_some hxw hcB'
                  have hsp := Ext.cell_some hxw hsp
                  have hat := Ext.cell_some hxw hat
                  clear hj
                  go_simp
                  try go_bits
                  first | rfl | (rw [if_pos (by omega), if_pos (by omega)]; go_simp; rfl) | (rw [if_pos (by omega)]; go_simp; rfl) | skip
                · have hcA := Ext.cell_some hxw hcA
                  have hcA' := Ext.cell_some hxw hcA'
                  have hcB := Ext.cell_some hxw hcB
                  have hcB' := Ext.cell_some hxw hcB'
                  have hsp := Ext.cell_some hxw hsp
                  have hat := Ext.cell_some hxw hat
                  clear hj
                  go_simp
                  try go_bits
                  first | rfl | (rw [if_pos (by omega), if_pos (by omega)]; go_simp; rfl) | (rw [if_pos (by omega)]; go_simp; rfl) | skip
                · have hcA := Ext.cell_some hxw hcA
                  have hcA' := Ext.cell_some hxw hcA'
                  have hcB := Ext.cell_some hxw hcB
                  have hcB' := Ext.cell_some hxw hcB'
                  have hsp := Ext.cell_some hxw hsp
                  have hat := Ext.cell_some hxw hat
                  clear hj
                  go_simp
                  try go_bits
                  first | rfl | (rw [if_pos (by omega), if_pos (by omega)]; go_simp; rfl) | (rw [if_pos (by omega)]; go_simp; rfl) | skip
                · have hcA := Ext.cell_some hxw hcA
                  have hcA' := Ext.cell_some hxw hcA'
                  have hcB := Ext.cell_some hxw hcB
                  have hcB' := Ext.cell_some hxw hcB'
                  have hsp := Ext.cell_some hxw hsp
                  have hat := Ext.cell_some hxw hat
                  clear hj
                  go_simp
                  try go_bits
                  first | rfl | (rw [if_pos (by omega), if_pos (by omega)]; go_simp; rfl) | (rw [if_pos (by omega)]; go_simp; rfl) | skip
                · have hcA := Ext.cell_some hxw hcA
                  have hcA' := Ext.cell_some hxw hcA'
                  have hcB := Ext.cell_some hxw hcB
                  have hcB' := Ext.cell_some hxw hcB'
                  have hsp := Ext.cell_some hxw hsp
                  have hat := Ext.cell_some hxw hat
                  clear hj
                  go_simp
                  try go_bits
                  first | rfl | (rw [if_pos (by omega), if_pos (by omega)]; go_simp; rfl) | (rw [if_pos (by omega)]; go_simp; rfl) | skip
                · have hcA := Ext.cell_some hxw hcA
                  have hcA' := Ext.cell_some hxw hcA'
                  have hcB := Ext.cell_some hxw hcB
                  have hcB' := Ext.cell_some hxw hcB'
                  have hsp := Ext.cell_some hxw hsp
                  have hat := Ext.cell_some hxw hat
                  clear hj
                  go_simp
                  try go_bits
                  first | rfl | (rw [if_pos (by omega), if_pos (by omega)]; go_simp; rfl) | (rw [if_pos (by omega)]; go_simp; rfl) | skip
                · have hcA := Ext.cell_some hxw hcA
                  have hcA' := Ext.cell_some hxw hcA'
                  have hcB := Ext.cell_some hxw hcB
                  have hcB' := Ext.cell_some hxw hcB'
                  have hsp := Ext.cell_some hxw hsp
                  have hat := Ext.cell_some hxw hat
                  clear hj
                  go_simp
                  try go_bits
                  first | rfl | (rw [if_pos (by omega), if_pos (by omega)]; go_simp; rfl) | (rw [if_pos (by omega)]; go_simp; rfl) | skip
                · have hcA := Ext.cell_some hxw hcA
                  have hcA' := Ext.cell_some hxw hcA'
                  have hcB := Ext.cell_some hxw hcB
                  have hcB' := Ext.cell_some hxw hcB'
                  have hsp := Ext.cell_some hxw hsp
                  have hat := Ext.cell_some hxw hat
                  clear hj
                  go_simp
                  try go_bits
                  first | rfl | (rw [if_pos (by omega), if_pos (by omega)]; go_simp; rfl) | (rw [if_pos (by omega)]; go_simp; rfl) | skip
              case' hx8_39_p =>
                intro vs w8 hx8 hk
                clear hk
                replace hcA := Ext.cell_some hx8 hcA
                replace hcA' := Ext.cell_some hx8 hcA'
                replace hcB := Ext.cell_some hx8 hcB
                replace hcB' := Ext.cell_some hx8 hcB'
                replace hsp := Ext.cell_some hx8 hsp
                replace hat := Ext.cell_some hx8 hat
                replace hx := Ext.trans hx hx8
                go_simp
                have ht8 := HT.out.1.ext hx8
                have hf8 := ht8.frozen i j HT.out.2.1
                have hs8 := ht8.set i j HT.out.2.1 (s + x * y)
                rw [HT.out.2.2] at hs8
                have hx9 := hx.setCell (p := ⟨gs i, j, none⟩) (ht8.rowlt i HT.out.2.1).1 (.int .i64 (s + x * y))
                have H8 := Lib.hid (And.intro hs8 hx9)
                clear ht8 hs8 hx9 hx8 hx
                go_wp2
                go_roundw
                case rel => exact ⟨k + 1, by omega, by go_num, H8.out.1, H8.out.2⟩
                case measure => simp [intOf]; omega
            · have hkn : k = n := by omega
              rw [hkn, cellTo_col] at ht
              subst hkn
              go_wp2
              go_roundw
              case rel => exact ⟨j + 1, by omega, by go_num, ht, hx⟩
              case measure => simp [intOf]; omega
        · have hjn : j = n := by omega
          rw [hjn, cellTo_row] at ht
          subst hjn
          go_wp2
          go_roundw
          case rel => exact ⟨i + 1, by omega, by go_num, ht, hx⟩
          case measure => simp [intOf]; omega
    · have hin : i = n := by omega
      rw [hin, cellTo_all, ← HF.out.2.2.2.2.1] at ht
      subst hin
      have HR := Lib.hid (ht.reads HF.out.2.2.2.1.symm)
      clear ht
      go_wp2
      go_ret
      exact ⟨_, rfl, HR.out, hx⟩

set_option maxHeartbeats 2000000 in
theorem spec_l4One_any (n : Nat) (w : World) (hn : n ≤ 1000) :
    Calls Tryz.prog 88 #[.int .i64 n] w fun e w' => ∃ u, e = .returned u ∧ ResM w' w.heap.size u (unitM n) ∧ Ext w w' := by
  have hz0 : tabF n n (fun _ _ => 0) = tabF n n (maskF (upB 0) idF) := unit_zero
  have hset := fun i (hi : i < n) => unit_set hi
  have hall := unit_all (n := n)
  have hul : (unitM n).length = n := tabF_length _ _ _
  have hz := spec_l4Zero_any n n w hn hn
  rw [hz0] at hz
  have HZ := Lib.hid (And.intro hz (And.intro hset (And.intro hall hul)))
  clear hz0 hz hset hall hul
  go_enter Tryz.func88, Tryz.ntmps88
  go_wp2_with (go_at_call 37; with_reducible refine HZ.out.1.mono ?_; rintro e w1 ⟨g, cap, gs, cs, rfl, ht, hx⟩)
  go_loopw [4] (fun q wr => ∃ k : Nat, k ≤ n ∧ q = .int .i64 k ∧ MTab wr w.heap.size 52 3 g n cap gs cs (tabF n n (maskF (upB k) idF)) ∧ Ext w wr) (fun q _ => n - (intOf q).toNat)
  case atStart => exact ⟨0, by omega, rfl, ht, hx⟩
  case round =>
    clear ht hx
    obtain ⟨i, hi, rfl, ht, hx⟩ := hrel
    by_cases hlti : i < n
    · have hkR : i < (tabF n n (maskF (upB i) idF)).length := by rw [tabF_length]; exact hlti
      have hsp := ht.spot i hkR
      have hcp := (ht.row i hkR).caps.1
      have hat := ht.at i i hkR (by rw [tabF_row_length hlti]; exact hlti)
      have hf := ht.frozen i i hkR
      rw [tabF_row_length hlti] at hsp hcp
      have hst := ht.set i i hkR 1
      rw [HZ.out.2.1 i hlti] at hst
      have hx9 := hx.setCell (p := ⟨gs i, i, none⟩) (ht.rowlt i hkR).1 (.int .i64 1)
      have H8 := Lib.hid (And.intro hst hx9)
      clear hst hx9 ht hx hkR
      go_wp2
      go_roundw
      case rel => exact ⟨i + 1, by omega, by go_num, H8.out.1, H8.out.2⟩
      case measure => simp [intOf]; omega
    · have hin : i = n := by omega
      rw [hin, HZ.out.2.2.1] at ht
      subst hin
      have HT := Lib.hid ht
      clear ht
      go_wp2
      go_ret
      exact ⟨_, rfl, .inr ⟨g, cap, gs, cs, by rw [HZ.out.2.2.2]; rfl, by rw [HZ.out.2.2.2]; exact HT.out⟩, hx⟩
end Go.Proofs.YtfiembmfkokllaaGreat

/- Contracts: products and powers of matrices, by the program. -/
namespace Go.Proofs.YtfiembmfkokllaaGreat
open Go.RowKit Go.Mx

end Go.Proofs.YtfiembmfkokllaaGreat

/- Contracts: products and powers of matrices, by the reference. -/
namespace Go.Proofs.YtfiembmfkokllaaGreat
open Go.RowKit Go.Mx

set_option maxHeartbeats 2000000 in
theorem spec_MultiplyMatrices_any (v v' : Value) (a b : List (List Int)) (w : World) (h : ReadsRows w v a) (h' : ReadsRows w v' b) :
    Calls Tryz.prog 89 #[v, v'] w fun e w' => ∃ u, e = .returned (.tuple #[u, .bool (mulO a b).isSome]) ∧ ReadsRows w' u ((mulO a b).getD []) ∧ Ext w w' := by
  have ha := spec_IsMatrix_any v a w h
  have hb := spec_IsMatrix_any v' b w h'
  cases hma : isMat a with
  | false =>
    rw [hma] at ha
    have HI := Lib.hid (And.intro ha (mulO_no (a := a) (b := b) (by rw [hma]; rfl)))
    clear ha hb hma
    go_enter Tryz.func89, Tryz.ntmps89
    go_wp2_with (go_at_call 64; with_reducible refine HI.out.1.mono ?_; rintro e w' ⟨rfl, rfl⟩)
    go_ret2
    exact ⟨_, by rw [HI.out.2]; rfl, by rw [HI.out.2]; exact spec_nil_rows _, Ext.alloc _ _⟩
  | true => cases hmb : isMat b with
  | false =>
    rw [hma] at ha
    rw [hmb] at hb
    have HI := Lib.hid (And.intro ha (And.intro hb (mulO_no (a := a) (b := b) (by rw [hmb]; simp))))
    clear ha hb hma hmb
    go_enter Tryz.func89, Tryz.ntmps89
    go_wp2_with (first | (go_at_call 64; with_reducible refine HI.out.1.mono ?_; rintro e w' ⟨rfl, rfl⟩) | (go_at_call 64; with_reducible refine HI.out.2.1.mono ?_; rintro e w' ⟨rfl, rfl⟩))
    go_ret2
    exact ⟨_, by rw [HI.out.2.2]; rfl, by rw [HI.out.2.2]; exact spec_nil_rows _, Ext.alloc _ _⟩
  | true =>
    rw [hma] at ha
    rw [hmb] at hb
    obtain ⟨pa, ca, rfl⟩ := h.slice
    obtain ⟨pb, cb, rfl⟩ := h'.slice
    have hla2 := h.len.2.2
    have hlb2 := h'.len.2.2
    have hla1 := h.len.2.1
    have hlb1 := h'.len.2.1
    by_cases hl : a.length = b.length
    · have hMa := isMat_yes hma
      have hMb := isMat_yes hmb
      rw [hl] at hMa
      have ht := spec_l4Times_any _ _ a b b.length w h h' hMa hMb
      have hle : ((a.length : Int) != (b.length : Int)) = false := by simp [hl]
      cases hmp : isMat (mulM b.length a b) with
      | true =>
        have HI := Lib.hid (And.intro ha (And.intro hb (And.intro ht (And.intro (mulO_yes (a := a) (b := b) (by rw [hma, hmb]; rfl) hl hmp) hmp))))
        clear ha hb hma hmb h h' hMa hMb ht hmp hl
        go_enter Tryz.func89, Tryz.ntmps89
        go_wp2_with (first | (go_at_call 64; with_reducible refine HI.out.1.mono ?_; rintro e w' ⟨rfl, rfl⟩) | (go_at_call 64; with_reducible refine HI.out.2.1.mono ?_; rintro e w' ⟨rfl, rfl⟩) | (go_at_call 54; with_reducible refine HI.out.2.2.1.mono ?_; rintro e w1 ⟨u, rfl, hres, hx⟩) | (go_at_call 64; with_reducible refine (spec_IsMatrix_any _ _ _ hres).mono ?_; rintro e w' ⟨rfl, rfl⟩; rw [HI.out.2.2.2.2]))
        go_ret2
        exact ⟨_, by rw [HI.out.2.2.2.1]; rfl, by rw [HI.out.2.2.2.1]; exact hres, hx⟩
      | false =>
        have HI := Lib.hid (And.intro ha (And.intro hb (And.intro ht (And.intro (mulO_bad (a := a) (b := b) hmp) hmp))))
        clear ha hb hma hmb h h' hMa hMb ht hmp hl
        go_enter Tryz.func89, Tryz.ntmps89
        go_wp2_with (first | (go_at_call 64; with_reducible refine HI.out.1.mono ?_; rintro e w' ⟨rfl, rfl⟩) | (go_at_call 64; with_reducible refine HI.out.2.1.mono ?_; rintro e w' ⟨rfl, rfl⟩) | (go_at_call 54; with_reducible refine HI.out.2.2.1.mono ?_; rintro e w1 ⟨u, rfl, hres, hx⟩) | (go_at_call 64; with_reducible refine (spec_IsMatrix_any _ _ _ hres).mono ?_; rintro e w' ⟨rfl, rfl⟩; rw [HI.out.2.2.2.2]))
        go_ret2
        exact ⟨_, by rw [HI.out.2.2.2.1]; rfl, by rw [HI.out.2.2.2.1]; exact spec_nil_rows _, Ext.trans hx (Ext.alloc _ _)⟩
    · have hle : ((a.length : Int) != (b.length : Int)) = true := by simp; omega
      have HI := Lib.hid (And.intro ha (And.intro hb (mulO_len hl)))
      clear ha hb hma hmb h h' hl
      go_enter Tryz.func89, Tryz.ntmps89
      go_wp2_with (first | (go_at_call 64; with_reducible refine HI.out.1.mono ?_; rintro e w' ⟨rfl, rfl⟩) | (go_at_call 64; with_reducible refine HI.out.2.1.mono ?_; rintro e w' ⟨rfl, rfl⟩))
      go_ret2
      exact ⟨_, by rw [HI.out.2.2]; rfl, by rw [HI.out.2.2]; exact spec_nil_rows _, Ext.alloc _ _⟩

set_option maxHeartbeats 2000000 in
theorem spec_PowerMatrix_any (v : Value) (m : List (List Int)) (x : Int) (w : World) (h : ReadsRows w v m) :
    Calls Tryz.prog 61 #[v, .int .i64 x] w fun e w' => ∃ u, e = .returned (.tuple #[u, .bool (powO m x).isSome]) ∧ ReadsRows w' u ((powO m x).getD []) ∧ Ext w w' := by
  have hm := spec_IsMatrix_any v m w h
  cases hmm : isMat m with
  | false =>
    rw [hmm] at hm
    have HI := Lib.hid (And.intro hm (powO_no (n := x) hmm))
    clear hm hmm
    go_enter Tryz.func61, Tryz.ntmps61
    go_wp2_with (go_at_call 64; with_reducible refine HI.out.1.mono ?_; rintro e w' ⟨rfl, rfl⟩)
    go_ret2
    exact ⟨_, by rw [HI.out.2]; rfl, by rw [HI.out.2]; exact spec_nil_rows _, Ext.alloc _ _⟩
  | true =>
    rw [hmm] at hm
    by_cases hx0 : x < 0
    · have HI := Lib.hid (And.intro hm (powO_far (m := m) (.inl hx0)))
      clear hm hmm
      go_enter Tryz.func61, Tryz.ntmps61
      go_wp2_with (first | (go_at_call 64; with_reducible refine HI.out.1.mono ?_; rintro e w' ⟨rfl, rfl⟩) | (go_at_call 53; with_reducible refine (spec_l1In_no _ _ _ _ (by omega)).mono ?_; rintro e w' ⟨rfl, rfl⟩))
      go_ret2
      exact ⟨_, by rw [HI.out.2]; rfl, by rw [HI.out.2]; exact spec_nil_rows _, Ext.alloc _ _⟩
    by_cases hx1 : 30 < x
    · have HI := Lib.hid (And.intro hm (powO_far (m := m) (.inr hx1)))
      clear hm hmm
      go_enter Tryz.func61, Tryz.ntmps61
      go_wp2_with (first | (go_at_call 64; with_reducible refine HI.out.1.mono ?_; rintro e w' ⟨rfl, rfl⟩) | (go_at_call 53; with_reducible refine (spec_l1In_no _ _ _ _ (by omega)).mono ?_; rintro e w' ⟨rfl, rfl⟩))
      go_ret2
      exact ⟨_, by rw [HI.out.2]; rfl, by rw [HI.out.2]; exact spec_nil_rows _, Ext.alloc _ _⟩
    obtain ⟨N, rfl⟩ : ∃ N : Nat, x = (N : Int) := ⟨x.toNat, by omega⟩
    have hN : N ≤ 30 := by omega
    have hpy := powO_yes hmm hN
    rw [hpy]
    obtain ⟨pa, ca, rfl⟩ := h.slice
    have hM := isMat_yes hmm
    have hu := spec_l4One_any m.length w (by have := hM.le; omega)
    have h9 := hM.le
    have hla2 := h.len.2.2
    have HI := Lib.hid (And.intro hm (And.intro h hu))
    clear hm h hu hM hpy hmm
    go_enter Tryz.func61, Tryz.ntmps61
    go_wp2_with (first | (go_at_call 64; with_reducible refine HI.out.1.mono ?_; rintro e w' ⟨rfl, rfl⟩) | (go_at_call 53; with_reducible refine (spec_l1In_yes _ _ _ _ (by omega) (by omega)).mono ?_; rintro e w' ⟨rfl, rfl⟩) | (go_at_call 88; with_reducible refine HI.out.2.2.mono ?_; rintro e w1 ⟨u, rfl, hres, hx⟩; replace hres := hres.reads))
    go_loopw [6, 7] (fun v i wr => ∃ (k : Nat) (t : List (List Int)), k ≤ N ∧ i = .int .i64 k ∧ powM m k = some t ∧ ReadsRows wr v t ∧ Ext w wr) (fun _ i _ => N - (intOf i).toNat)
    case atStart => exact ⟨0, unitM m.length, by omega, rfl, rfl, hres, hx⟩
    case round =>
      clear hres hx
      obtain ⟨k, t, hk, rfl, hp, hres, hx⟩ := hrel
      by_cases hlt : k < N
      · have hmul := spec_MultiplyMatrices_any _ _ t m wr hres (HI.out.2.1.ext hx)
        rw [← powM_succ hp] at hmul
        have HP := Lib.hid (And.intro hmul hp)
        clear hmul hp hres
        cases hq : powM m (k + 1) with
        | some t2 =>
          rw [hq] at HP
          have HQ := Lib.hid hq
          clear hq
          go_wp2_with fail
          with_reducible refine HP.out.1.mono ?_
          rintro e w1 ⟨u1, rfl, hres, hy⟩
          have HR := Lib.hid hres
          clear hres
          go_wp2
          go_roundw
          case rel => exact ⟨k + 1, t2, by omega, by go_num, HQ.out, HR.out, hx.trans hy⟩
          case measure => simp [intOf]; omega
        | none =>
          rw [hq] at HP
          have HL := Lib.hid (powM_late hq (show k + 1 ≤ N by omega))
          clear hq
          go_wp2_with fail
          with_reducible refine HP.out.1.mono ?_
          rintro e w1 ⟨u1, rfl, hres, hy⟩
          clear hres
          go_wp2
          go_ret2
          exact ⟨_, by rw [HL.out]; rfl, by rw [HL.out]; exact spec_nil_rows _, Ext.trans (Ext.trans hx hy) (Ext.alloc _ _)⟩
      · have hkn : k = N := by omega
        subst hkn
        have HR := Lib.hid (And.intro hp hres)
        clear hp hres
        go_wp2
        go_ret2
        exact ⟨_, by rw [HR.out.1]; rfl, by rw [HR.out.1]; exact HR.out.2, hx⟩

end Go.Proofs.YtfiembmfkokllaaGreat

/- Contracts: sums of matrices, graphs, by the program and by the reference. -/
namespace Go.Proofs.YtfiembmfkokllaaGreat
open Go.RowKit Go.Mx

def sumV (m : List (List Int)) : Int := if isMat m = true then sumM m else -1
theorem sumV_yes {m : List (List Int)} (h : isMat m = true) : sumV m = sumM m := if_pos h
theorem sumV_no {m : List (List Int)} (h : isMat m = false) : sumV m = -1 := if_neg (by simp [h])

set_option maxHeartbeats 2000000 in
theorem spec_SumOf_any (v : Value) (m : List (List Int)) (w : World) (h : ReadsRows w v m) :
    Calls Tryz.prog 62 #[v] w fun e w' => e = .returned (.int .i64 (sumV m)) ∧ w = w' := by
  have hi := spec_IsMatrix_any v m w h
  cases hm : isMat m with
  | false =>
    rw [hm] at hi
    have HI := Lib.hid (And.intro hi (sumV_no hm))
    clear hi hm
    go_enter Tryz.func62, Tryz.ntmps62
    go_wp2_with (go_at_call 64; with_reducible refine HI.out.1.mono ?_; rintro e w' ⟨rfl, rfl⟩)
    go_ret
    exact ⟨by rw [HI.out.2]; rfl, rfl⟩
  | true =>
    rw [hm] at hi
    have hM := isMat_yes hm
    have h9 := hM.le
    have hv := sumV_yes hm
    obtain ⟨a, c, rfl⟩ := h.slice
    obtain ⟨-, hlc, hc⟩ := h.len
    have hall : sumTo m m.length = sumM m := rfl
    obtain ⟨n, hn⟩ : ∃ n, n = m.length := ⟨_, rfl⟩
    rw [← hn] at h hlc hM h9 hi hall ⊢
    have HM := Lib.hid (And.intro h (And.intro hn (And.intro hM (And.intro hi (And.intro hv hall)))))
    clear h hn hM hi hm hv hall
    go_enter Tryz.func62, Tryz.ntmps62
    go_wp2_with (go_at_call 64; with_reducible refine HM.out.2.2.2.1.mono ?_; rintro e w' ⟨rfl, rfl⟩)
    go_loop [3, 4] (fun s i => ∃ k : Nat, k ≤ n ∧ i = .int .i64 k ∧ s = .int .i64 (sumTo m k)) (fun _ i => n - (intOf i).toNat)
    case atStart => exact ⟨0, by omega, rfl, rfl⟩
    case round =>
      obtain ⟨k, hk, rfl, rfl⟩ := hrel
      by_cases hlt : k < n
      · obtain ⟨b, o, a', c', rfl, hcell, hrow⟩ := HM.out.1.at k (by rw [← HM.out.2.1]; exact hlt)
        have hlr := HM.out.2.2.1.row k hlt
        rw [hlr] at hcell hrow
        have hlc2 := hrow.len.2.1
        obtain ⟨hs1, hs2⟩ := HM.out.2.2.1.sumTo_bd k
        have hsucc := sumTo_succ m k
        obtain ⟨r, hr⟩ : ∃ r, r = m.getD k [] := ⟨_, rfl⟩
        obtain ⟨s, hss⟩ : ∃ s, s = sumTo m k := ⟨_, rfl⟩
        have hrb : ∀ j, 0 ≤ r.getD j 0 ∧ r.getD j 0 ≤ 1000000 := fun j => by rw [hr]; exact ⟨HM.out.2.2.1.low k j, HM.out.2.2.1.high k j⟩
        rw [← hss] at hs1 hs2 hsucc ⊢
        rw [← hr] at hsucc hlr hrow
        have hs3 : s ≤ 9000000000 := by omega
        have HT := Lib.hid (And.intro hsucc (And.intro hlr (And.intro hrow hrb)))
        clear hsucc hss hr hrow hs2 hlr hrb
        go_wp2
        go_loop [3, 5] (fun z i => ∃ j : Nat, j ≤ n ∧ i = .int .i64 j ∧ z = .int .i64 (s + (r.take j).sum)) (fun _ i => n - (intOf i).toNat)
        case atStart => exact ⟨0, by omega, rfl, by simp⟩
        case round =>
          obtain ⟨j, hj, rfl, rfl⟩ := hrel
          by_cases hltj : j < n
          · obtain ⟨b', o', rfl, hcell'⟩ := HT.out.2.2.1.at j (by rw [HT.out.2.1]; exact hltj)
            have hsj := sum_take_succ r j (by rw [HT.out.2.1]; exact hltj)
            obtain ⟨hp1, hp2⟩ := sum_take_pos r 1000000 (by omega) HT.out.2.2.2 j
            obtain ⟨hy1, hy2⟩ := HT.out.2.2.2 j
            obtain ⟨y, hyy⟩ : ∃ y, y = r.getD j 0 := ⟨_, rfl⟩
            obtain ⟨p, hp⟩ : ∃ y, y = (r.take j).sum := ⟨_, rfl⟩
            rw [← hyy] at hcell' hsj hy1 hy2
            rw [← hp] at hsj hp1 hp2 ⊢
            have hp3 : p ≤ 9000000 := by omega
            have HJ := Lib.hid hsj
            clear hsj hyy hp hp2
            go_wp2
            go_round
            case rel => exact ⟨j + 1, by omega, by go_num, by rw [HJ.out, Int.add_assoc]⟩
            case measure => simp [intOf]; omega
          · have hjn : j = n := by omega
            have e : s + (r.take j).sum = sumTo m (k + 1) := by rw [HT.out.1, hjn, ← HT.out.2.1, List.take_length]
            rw [e]
            have HE := Lib.hid e
            clear e
            subst hjn
            go_wp2
            go_round
            case rel => exact ⟨k + 1, by omega, by go_num, rfl⟩
            case measure => simp [intOf]; omega
      · have hkn : k = n := by omega
        subst hkn
        go_wp2
        go_ret
        exact ⟨by rw [HM.out.2.2.2.2.1, ← HM.out.2.2.2.2.2]; rfl, rfl⟩

end Go.Proofs.YtfiembmfkokllaaGreat

/- Contracts: powers, letters, what a code is. -/
namespace Go.Proofs.YtfiembmfkokllaaGreat
open Go.RowKit Go.Cm

set_option maxHeartbeats 400000 in
theorem impl_power_any (k n : Int) (w : World) (h0 : 0 ≤ k) (h3 : k ≤ 3) (hn : 0 ≤ n) (h16 : n ≤ 16) :
    Calls Tryz.prog 76 #[.int .i64 k, .int .i64 n] w fun e w' => e = .returned (.int .i64 (pw k n)) ∧ w = w' := by
  obtain ⟨m, rfl⟩ := Int.eq_ofNat_of_zero_le hn
  go_enter Tryz.func76, Tryz.ntmps76
  go_wp2
  go_loop [5, 7] (fun p i => ∃ j : Nat, j ≤ m ∧ i = .int .i64 j ∧ p = .int .i64 (pw k j)) (fun _ i => m - (intOf i).toNat)
  case atStart => exact ⟨0, by omega, rfl, by rw [show ((0 : Nat) : Int) = 0 from rfl, pw_zero]⟩
  case round =>
    obtain ⟨j, hj, rfl, rfl⟩ := hrel
    by_cases hlt : j < m
    · have b1 := pw_bd h0 h3 (n := (j : Int)) (by omega) (by omega)
      have b2 := pw_bd h0 h3 (n := ((j + 1 : Nat) : Int)) (by omega) (by omega)
      have e : ((j + 1 : Nat) : Int) = (j : Int) + 1 := by omega
      rw [e, pw_succ] at b2
      obtain ⟨b1l, b1h⟩ := b1
      obtain ⟨b2l, b2h⟩ := b2
      clear e
      go_wp2
      go_round
      case rel => exact ⟨j + 1, by omega, by go_num, by rw [show ((j + 1 : Nat) : Int) = (j : Int) + 1 by omega, pw_succ]⟩
      case measure => simp [intOf]; omega
    · go_wp2
      go_ret
      have : j = m := by omega
      subst this
      exact ⟨rfl, rfl⟩

set_option maxHeartbeats 400000 in
theorem impl_areLetters_any (K : Int) (s : ByteArray) (w : World) (hs : s.size ≤ maxLen) :
    Calls Tryz.prog 70 #[.int .i64 K, .string s] w fun e w' => e = .returned (.bool (areLet K s.data.toList)) ∧ w = w' := by
  unfold maxLen at hs
  go_enter Tryz.func70, Tryz.ntmps70
  go_wp2
  go_loop [5, 8] (fun _ i => ∃ k : Nat, k ≤ s.size ∧ i = .int .i64 k ∧ areLet K (s.data.toList.take k) = true) (fun _ i => s.size - (intOf i).toNat)
  case atStart => exact ⟨0, by omega, rfl, by simp [areLet]⟩
  case round =>
    obtain ⟨k, hk, rfl, hp⟩ := hrel
    have HP := Lib.hid hp
    clear hp
    by_cases hlt : k < s.size
    · have hb := s[k].toNat_lt
      go_wp2
      · go_ret
        exact ⟨ret_bool (areLet_bad hlt (by omega)).symm, rfl⟩
      · go_round
        case rel => exact ⟨k + 1, by omega, by go_num, areLet_snoc hlt HP.out (by omega) (by omega)⟩
        case measure => simp [intOf]; omega
      · go_ret
        exact ⟨ret_bool (areLet_bad hlt (by omega)).symm, rfl⟩
    · have : k = s.size := by omega
      subst this
      go_wp2
      go_ret
      exact ⟨ret_bool (areLet_all HP.out).symm, rfl⟩

end Go.Proofs.YtfiembmfkokllaaGreat

/- Contracts: the word at an index, the words of a length. -/
namespace Go.Proofs.YtfiembmfkokllaaGreat
open Go.RowKit Go.Cm

/-- where the loop of wordAt stands: k letters are still to come -/
structure WordSt (K n i0 : Nat) (k rest : Nat) (fs : List Value) : Prop where
  le : k ≤ n
  len : fs.length = n
  word : ∃ t : List UInt8, wordL K k rest ++ t = wordL K n i0 ∧ fs.drop k = bcells t

theorem wordSt_start (K n i : Nat) : WordSt K n i n i (List.replicate n (.int .u8 0)) :=
  ⟨Nat.le_refl _, by simp, [], by simp, by simp [bcells]⟩
theorem wordSt_step {K n i0 k rest : Nat} {fs : List Value} (hK : K ≤ 3) (hK0 : 0 < K) (h : WordSt K n i0 (k + 1) rest fs) : WordSt K n i0 k (rest / K) (fs.set k (.int .u8 ((97 : Int) + (rest : Int) % (K : Int)))) := by
  obtain ⟨hle, hlen, t, ht, hf⟩ := h
  refine ⟨by omega, by simpa using hlen, letN (rest % K) :: t, ?_, ?_⟩
  · rw [← ht]; simp [wordL]
  · have hk : k < fs.length := by omega
    rw [List.drop_eq_getElem_cons (by simpa using hk)]
    simp only [List.getElem_set_self, bcells, List.map_cons]
    have hm : rest % K < K := Nat.mod_lt _ hK0
    unfold letN
    rw [ofNat_toNat (by omega)]
    have e : ((97 + rest % K : Nat) : Int) = (97 : Int) + (rest : Int) % (K : Int) := by simp
    rw [e]
    congr 1
    rw [List.drop_set_of_lt (by omega)]
    exact hf
theorem wordSt_end {K n i0 rest : Nat} {fs : List Value} (h : WordSt K n i0 0 rest fs) : fs = bcells (wordL K n i0) := by
  obtain ⟨_, _, t, ht, hf⟩ := h
  have : t = wordL K n i0 := by simpa [wordL] using ht
  rw [← this]; simpa using hf

set_option maxHeartbeats 400000 in
theorem impl_wordAt_any (K n i : Nat) (w : World) (hK0 : 0 < K) (hK : K ≤ 3) (hn : n ≤ 16) (hi : i ≤ 43046721) :
    Calls Tryz.prog 77 #[.int .i64 K, .int .i64 n, .int .i64 i] w fun e w' => e = .returned (.string (mkS (wordL K n i))) ∧ Ext w w' := by
  have hmk := run_make_row' (P := Tryz.prog) 22 5 (.int .u8 0) 1 Tryz.underlying22 infoU8 rfl .i64 .i64 n (by omega) (by omega)
  go_enter Tryz.func77, Tryz.ntmps77
  go_wp2
  go_loopw [2, 8] (fun x j wr => ∃ (k rest : Nat) (fs : List Value), j = .int .i64 ((k : Int) - 1) ∧ x = .int .i64 rest ∧ rest ≤ i ∧ WordSt K n i k rest fs ∧ Own wr w.heap.size 5 (.slice (some ⟨w.heap.size, 0, none⟩) n n) fs ∧ Ext w wr) (fun _ j _ => (intOf j + 1).toNat)
  case atStart => exact ⟨n, i, _, rfl, rfl, Nat.le_refl _, wordSt_start K n i, Own.made w _ _ n (by unfold maxLen; omega), Ext.alloc _ _⟩
  case round =>
    obtain ⟨k, rest, fs, rfl, rfl, hri, hst, hown, hx⟩ := hrel
    cases k with
    | zero =>
      have hf := wordSt_end hst
      subst hf
      have hcv := run_convert_own (P := Tryz.prog) (src := 22) (dst := 9) Tryz.underlying22 Tryz.underlying5 Tryz.underlying9 hown
      have HS := Lib.hid hst
      clear hst
      go_wp2
      go_ret
      exact ⟨rfl, hx⟩
    | succ k =>
      have hk : k < n := by have := hst.le; omega
      have hlen := hst.len
      obtain ⟨v, hc⟩ : ∃ v, wr.cell? ⟨w.heap.size, k, none⟩ = some v := ⟨_, hown.cell k (by omega)⟩
      have hfz := hown.frozen k
      have e1 : ((k + 1 : Nat) : Int) - 1 = (k : Int) := by omega
      rw [e1]
      clear e1
      have hm0 : (0 : Int) ≤ (rest : Int) % (K : Int) := Int.emod_nonneg _ (by omega)
      have hm1 : (rest : Int) % (K : Int) < K := Int.emod_lt_of_pos _ (by omega)
      have hd0 : (0 : Int) ≤ (rest : Int) / (K : Int) := Int.ediv_nonneg (by omega) (by omega)
      have hd1 : (rest : Int) / (K : Int) ≤ rest := Int.ediv_le_self _ (by omega)
      have HS := Lib.hid hst
      have HL := Lib.hid hlen
      clear hst hlen
      go_wp2
      go_roundw
      case rel => exact ⟨k, rest / K, _, rfl, by go_num, by have := Nat.div_le_self rest K; omega, wordSt_step hK hK0 HS.out, hown.store k _, hx.setCell (Nat.le_refl _) _⟩
      case measure => simp [intOf]

theorem wordsL_take (k n j : Nat) (hj : j < k ^ n) : (wordsL k n).take (j + 1) = (wordsL k n).take j ++ [wordL k n j] := by
  rw [List.take_succ_eq_append_getElem (by simpa [wordsL] using hj)]
  simp [wordsL]
theorem wordsL_all (k n : Nat) : (wordsL k n).take (k ^ n) = wordsL k n := List.take_of_length_le (by simp [wordsL])
theorem wordsL_take_length (k n j : Nat) (hj : j ≤ k ^ n) : ((wordsL k n).take j).length = j := by simp [wordsL]; omega
/-- words as cells -/
def scells (l : List (List UInt8)) : List Value := l.map fun u => .string (mkS u)
theorem pw_nat (K n : Nat) : pw (K : Int) (n : Int) = ((K ^ n : Nat) : Int) := by simp [pw]

set_option maxHeartbeats 400000 in
theorem impl_wordsOf_any (K n : Nat) (w : World) (hK0 : 0 < K) (hK : K ≤ 3) (hn : n ≤ 16) (hKn : K ^ n ≤ 43046721) :
    Calls Tryz.prog 40 #[.int .i64 K, .int .i64 n] w fun e w' => ∃ v, e = .returned v ∧ Own w' w.heap.size 9 v (scells (wordsL K n)) ∧ Ext w w' := by
  go_enter Tryz.func40, Tryz.ntmps40
  go_wp2_with fail
  refine (impl_power_any _ _ _ (by omega) (by omega) (by omega) (by omega)).mono ?_
  rintro e w1 ⟨rfl, rfl⟩
  rw [pw_nat]
  obtain ⟨N, hN⟩ : ∃ N, N = K ^ n := ⟨_, rfl⟩
  rw [← hN] at hKn ⊢
  have HN := Lib.hid hN
  clear hN
  have hB0 : Own (w.alloc (.cells #[] 9)) w.heap.size 9 (.slice (some ⟨w.heap.size, 0, none⟩) 0 0) [] := Own.lit w 9 [] (by simp)
  go_wp2
  go_loopw [5, 6, 11] (fun v _ i wr => ∃ k : Nat, k ≤ N ∧ i = .int .i64 k ∧ Own wr w.heap.size 9 v (scells ((wordsL K n).take k)) ∧ Ext w wr) (fun _ _ i _ => N - (intOf i).toNat)
  case atStart => exact ⟨0, by omega, rfl, hB0, Ext.alloc _ _⟩
  case round =>
    obtain ⟨k, hk, rfl, hown, hx⟩ := hrel
    by_cases hlt : k < N
    · go_wp2_with fail
      refine (impl_wordAt_any K n k _ hK0 hK hn (by omega)).mono ?_
      rintro e w1 ⟨rfl, hx1⟩
      have hown1 := hown.ext hx1
      have hx01 := hx.trans hx1
      clear hx hx1 hown
      have hlen : (scells ((wordsL K n).take k)).length = k := by simp only [scells, List.length_map]; exact wordsL_take_length K n k (by rw [← HN.out]; exact hk)
      have hl1 : (scells ((wordsL K n).take k)).length + 1 ≤ maxLen := by unfold maxLen; omega
      have hl2 : ((scells ((wordsL K n).take k)).length + 1) * 16 ≤ 140737488355328 := by omega
      have HL := Lib.hid hlen
      clear hlen
      go_wp2_with (at_builtin; refine wpList_append_one rfl (.tmp 14) (.tmp 19) 24 rfl 9 _ _ Tryz.underlying24 infoStr rfl w.heap.size _ _ rfl (hown1.ext (Ext.alloc _ _)) w1.heap.size _ rfl (by simp; rfl) rfl hl1 hl2 w rfl (hx01.trans (Ext.alloc _ _)) ?_; intro v' w2 hown2 hx2 _)
      go_roundw
      case rel => exact ⟨k + 1, by omega, by go_num, by rw [wordsL_take K n k (by rw [← HN.out]; exact hlt)]; simpa [scells] using hown2, hx2⟩
      case measure => simp [intOf]; omega
    · have : k = N := by omega
      subst this
      have hN := HN.out
      rw [hN, wordsL_all] at hown
      clear hN
      go_wp2
      go_ret
      exact ⟨_, rfl, hown, hx⟩
end Go.Proofs.YtfiembmfkokllaaGreat

/- Contract: the code that gives letters by a function. -/
namespace Go.Proofs.YtfiembmfkokllaaGreat
open Go.RowKit Go.Cm

end Go.Proofs.YtfiembmfkokllaaGreat

/- Cells and frozen marks behind a chain of allocs. -/
namespace Go.Proofs.YtfiembmfkokllaaGreat
open Go.RowKit Go.Cm

theorem cell_new {w : World} {c : Array Value} {t : TypeId} {n i : Nat} {v : Value} (h : n = w.heap.size) (hv : c[i]? = some v) : (w.alloc (.cells c t)).cell? ⟨n, i, none⟩ = some v := by
  subst h
  rw [World.cell?_alloc_new, hv]

theorem cell_old {w : World} {o : Obj} {n i : Nat} {v : Value} (h : w.cell? ⟨n, i, none⟩ = some v) : (w.alloc o).cell? ⟨n, i, none⟩ = some v := by
  rw [World.cell?_alloc_lt _ _ _ (World.block_lt_of_cell? w _ h), h]

theorem frozen_new {w : World} {c : Array Value} {t : TypeId} {n i : Nat} (h : n = w.heap.size) : (w.alloc (.cells c t)).frozen? ⟨n, i, none⟩ = false := by
  subst h
  rw [World.frozen?_alloc_new]

theorem frozen_old {w : World} {o : Obj} {n i : Nat} (h : n < w.heap.size) (hf : w.frozen? ⟨n, i, none⟩ = false) : (w.alloc o).frozen? ⟨n, i, none⟩ = false := by
  rw [World.frozen?_alloc_old _ _ _ (Nat.ne_of_lt h), hf]

theorem Ext.frozen_is {w w' : World} {n i : Nat} (hx : Ext w w') (h : n < w.heap.size) (hf : w.frozen? ⟨n, i, none⟩ = false) : w'.frozen? ⟨n, i, none⟩ = false :=
  (Below.frozen (p := ⟨n, i, none⟩) hx h).trans hf

/-- A block is at hand: its cells and that they are not frozen. -/
structure Blk (w : World) (b : Nat) (c : Array Value) : Prop where
  cell : ∀ i v, c[i]? = some v → w.cell? ⟨b, i, none⟩ = some v
  frozen : ∀ i, w.frozen? ⟨b, i, none⟩ = false
  lt : b < w.heap.size

theorem Blk.mk' {w : World} {c : Array Value} {t : TypeId} {n : Nat} (h : n = w.heap.size) : Blk (w.alloc (.cells c t)) n c :=
  ⟨fun _ _ hv => cell_new h hv, fun _ => frozen_new h, by simp; omega⟩

theorem Blk.old {w : World} {o : Obj} {b : Nat} {c : Array Value} (h : Blk w b c) : Blk (w.alloc o) b c :=
  ⟨fun i v hv => cell_old (h.cell i v hv), fun i => frozen_old h.lt (h.frozen i), by have := h.lt; simp; omega⟩

theorem Blk.ext {w w' : World} {b : Nat} {c : Array Value} (h : Blk w b c) (hx : Ext w w') : Blk w' b c :=
  ⟨fun i v hv => hx.cell_some (h.cell i v hv), fun i => Ext.frozen_is hx h.lt (h.frozen i), Nat.lt_of_lt_of_le h.lt hx.size⟩

/-- Cells of a block behind a store. -/
theorem Blk.set {w : World} {b i : Nat} {c : Array Value} (h : Blk w b c) (hi : i < c.size) (v : Value) : Blk (w.setCell ⟨b, i, none⟩ v) b (c.set i v hi) := by
  refine ⟨fun j u hu => ?_, fun j => by rw [World.frozen?_setCell, h.frozen], by simpa using h.lt⟩
  by_cases e : i = j
  · subst e
    have : u = v := by simpa using hu.symm
    subst this
    exact World.cell?_setCell_same w _ _ (h.cell i c[i] (by simp [hi]))
  · rw [World.cell?_setCell_other _ _ _ _ (by intro h; injection h; contradiction)]
    exact h.cell j u (by simpa [Array.getElem?_set, e] using hu)

theorem Blk.other {w : World} {b b' i : Nat} {c : Array Value} (h : Blk w b c) (hb : b' ≠ b) (v : Value) : Blk (w.setCell ⟨b', i, none⟩ v) b c := by
  refine ⟨fun j u hu => ?_, fun j => by rw [World.frozen?_setCell, h.frozen], by simpa using h.lt⟩
  rw [World.cell?_setCell_other _ _ _ _ (by intro h; injection h; contradiction)]
  exact h.cell j u hu

theorem Blk.c3 {w : World} {b : Nat} {x y z : Value} (h : Blk w b #[x, y, z]) : w.cell? ⟨b, 0, none⟩ = some x ∧ w.cell? ⟨b, 1, none⟩ = some y ∧ w.cell? ⟨b, 2, none⟩ = some z ∧ w.frozen? ⟨b, 0, none⟩ = false ∧ w.frozen? ⟨b, 1, none⟩ = false ∧ w.frozen? ⟨b, 2, none⟩ = false :=
  ⟨h.cell 0 _ rfl, h.cell 1 _ rfl, h.cell 2 _ rfl, h.frozen 0, h.frozen 1, h.frozen 2⟩

theorem Ext.stored {w w' : World} {a : Addr} {v : Value} (h : Ext w w') (ha : w.heap.size ≤ a.block) : Ext w (w'.setCell a v) := h.setCell ha v

theorem GB.blk {W wr : World} {row : Option Nat} {b : Nat} {c : Array Value} (h : W.grownBy wr row) (k : Blk W b c) (hne : row ≠ some b) : Blk wr b c :=
  ⟨fun i v hv => GB.cell h (k.cell i v hv) hne, fun i => (GB.frozen h (a := ⟨b, i, none⟩) k.lt hne).trans (k.frozen i), Nat.lt_of_lt_of_le k.lt h.size⟩

end Go.Proofs.YtfiembmfkokllaaGreat

/- Contract: the reference's IsCode. -/
namespace Go.Proofs.YtfiembmfkokllaaGreat
open Go.RowKit Go.Cm

end Go.Proofs.YtfiembmfkokllaaGreat


/- Contract: the number of words of a length, by the reference. -/
import Derived.Test.YtfiembmfkokllaaGreatCntA
import Derived.Test.YtfiembmfkokllaaGreatPkB
namespace Go.Proofs.YtfiembmfkokllaaGreat
open Go.RowKit Go.Cm Go.Mx

set_option maxRecDepth 100000 in
set_option maxHeartbeats 8000000 in
theorem spec_l4TimesRow_any (v v' : Value) (R n : Nat) (F : Nat → Nat → Int) (b : List (List Int)) (w : World) (h : ReadsRows w v (tabF R n F)) (h' : ReadsRows w v' b) (hR : R ≤ 9) (hn9 : n ≤ 9) (hpn : 1 ≤ n) (hbl : b.length = n) (hbr : ∀ i, i < n → (b.getD i []).length = n) (hAb : ∀ i j, 0 ≤ F i j ∧ F i j ≤ 150094635296999121) (hBb : ∀ i j, 0 ≤ at2 b i j ∧ at2 b i j ≤ 1) :
    Calls Tryz.prog 54 #[v, v', .int .i64 n] w fun e w' => ∃ u, e = .returned u ∧ ReadsRows w' u (tabF R n (dotTo F (at2 b) n)) ∧ Ext w w' := by
  obtain ⟨pa, ca, rfl⟩ := h.slice
  obtain ⟨pb, cb, rfl⟩ := h'.slice
  obtain ⟨-, hla1, hla2⟩ := h.len
  obtain ⟨-, hlb1, hlb2⟩ := h'.len
  have hA : ∀ i j, i < R → j < n → ((tabF R n F).getD i []).getD j 0 = F i j := fun i j hi hj => tabF_at R n F i j hi hj
  have hAr : ∀ i, i < R → ((tabF R n F).getD i []).length = n := fun i hi => by rw [tabF_row R n F i hi, rowF_length]
  have hAl : (tabF R n F).length = R := tabF_length R n F
  have hB : ∀ i j, at2 b i j = (b.getD i []).getD j 0 := fun i j => rfl
  have hml : ∀ G, (tabF R n (dotTo F G n)).length = R := fun G => tabF_length R n _
  have hdb : ∀ i j k, 0 ≤ dotTo F (at2 b) k i j ∧ dotTo F (at2 b) k i j ≤ (k : Int) * 150094635296999121 := fun i j k =>
    sumN_bd (B := 150094635296999121) (f := fun x => F i x * at2 b x j) (fun x => by rw [Int.mul_comm]; exact mul01 (hBb x j).1 (hBb x j).2 (hAb i x)) k
  rw [hAl] at h hla1 ⊢
  rw [hbl] at h' hlb1 ⊢
  obtain ⟨a, had⟩ : ∃ a, a = tabF R n F := ⟨_, rfl⟩
  rw [← had] at h hA hAr hAl
  obtain ⟨G, hG⟩ : ∃ F, F = at2 b := ⟨_, rfl⟩
  rw [← hG] at hdb ⊢
  rw [← hG] at hB hBb
  have hz := spec_l4Zero_any R n w (by omega) (by omega)
  rw [← cellTo_zero F G n] at hz
  have HM := Lib.hid (And.intro h (And.intro h' (And.intro (And.intro hAl (And.intro hAr hA)) (And.intro (And.intro hbl hbr) hz))))
  have HF := Lib.hid (And.intro hdb (And.intro True.intro (And.intro hB (And.intro (hml G) (And.intro True.intro (And.intro hAb hBb))))))
  clear h h' hbl hbr hdb hA hAr hAl hB hml hG hAb hBb hz had
  go_enter Tryz.func54, Tryz.ntmps54
  go_wp2_with (go_at_call 37; with_reducible refine HM.out.2.2.2.2.mono ?_; rintro e w1 ⟨g, cap, gs, cs, rfl, ht, hx⟩)
  go_loopw [8] (fun q wr => ∃ k : Nat, k ≤ R ∧ q = .int .i64 k ∧ MTab wr w.heap.size 52 3 g R cap gs cs (tabF R n (cellTo F G n k 0 0)) ∧ Ext w wr) (fun q _ => R - (intOf q).toNat)
  case atStart => exact ⟨0, by omega, rfl, ht, hx⟩
  case round =>
    clear ht hx
    obtain ⟨i, hi, rfl, ht, hx⟩ := hrel
    by_cases hlti : i < R
    · go_wp2
      go_loopw [9] (fun q wr => ∃ k : Nat, k ≤ n ∧ q = .int .i64 k ∧ MTab wr w.heap.size 52 3 g R cap gs cs (tabF R n (cellTo F G n i k 0)) ∧ Ext w wr) (fun q _ => n - (intOf q).toNat)
      case atStart => exact ⟨0, by omega, rfl, ht, hx⟩
      case round =>
        clear ht hx
        obtain ⟨j, hj, rfl, ht, hx⟩ := hrel
        by_cases hltj : j < n
        · go_wp2
          go_loopw [10] (fun q wr => ∃ k : Nat, k ≤ n ∧ q = .int .i64 k ∧ MTab wr w.heap.size 52 3 g R cap gs cs (tabF R n (cellTo F G n i j k)) ∧ Ext w wr) (fun q _ => n - (intOf q).toNat)
          case atStart => exact ⟨0, by omega, rfl, ht, hx⟩
          case round =>
            clear ht hx
            obtain ⟨k, hk, rfl, ht, hx⟩ := hrel
            by_cases hltk : k < n
            · obtain ⟨bk, o, a', c', hpa1, hcA, hrow⟩ := HM.out.1.at i (by rw [HM.out.2.2.1.1]; exact hlti)
              obtain ⟨b', o', ha'1, hcA'⟩ := hrow.at k (by rw [HM.out.2.2.1.2.1 i hlti]; exact hltk)
              obtain ⟨bk2, o2, a2, c2, hpb1, hcB, hrow2⟩ := HM.out.2.1.at k (by rw [HM.out.2.2.2.1.1]; exact hltk)
              obtain ⟨b2, o2', ha2, hcB'⟩ := hrow2.at j (by rw [HM.out.2.2.2.1.2 k hltk]; exact hltj)
              subst hpa1; subst ha'1; subst hpb1; subst ha2
              rw [HM.out.2.2.1.2.1 i hlti] at hcA hrow
              rw [HM.out.2.2.2.1.2 k hltk] at hcB hrow2
              have hlc := hrow.len.2.1
              have hlc2 := hrow2.len.2.1
              rw [HM.out.2.2.1.2.2 i k hlti hltk] at hcA'
              rw [← HF.out.2.2.1] at hcB'
              replace hcA := hx.cell_some hcA
              replace hcA' := hx.cell_some hcA'
              replace hcB := hx.cell_some hcB
              replace hcB' := hx.cell_some hcB'
              obtain ⟨hx1, hx2⟩ := HF.out.2.2.2.2.2.1 i k
              obtain ⟨hy1, hy2⟩ := HF.out.2.2.2.2.2.2 k j
              obtain ⟨hs1, hs2⟩ := HF.out.1 i j k
              have hset := cellTo_set F G n R n i j k hlti
              have hkR : i < (tabF R n (cellTo F G n i j k)).length := by rw [tabF_length]; exact hlti
              have hsp := ht.spot i hkR
              have hcp := (ht.row i hkR).caps.1
              have hat := ht.at i j hkR (by rw [tabF_row_length hlti]; exact hltj)
              rw [cellTo_at F G n R n i j k hlti hltj] at hat
              rw [tabF_row_length hlti] at hsp hcp
              obtain ⟨x, hxx⟩ : ∃ x, x = F i k := ⟨_, rfl⟩
              obtain ⟨y, hyy⟩ : ∃ y, y = G k j := ⟨_, rfl⟩
              obtain ⟨s, hss⟩ : ∃ s, s = dotTo F G k i j := ⟨_, rfl⟩
              rw [← hxx] at hcA' hx1 hx2 hset
              rw [← hyy] at hcB' hy1 hy2 hset
              rw [← hss] at hat hs1 hs2 hset
              have hxy : 0 ≤ x * y ∧ x * y ≤ 150094635296999121 := by rw [Int.mul_comm]; exact mul01 hy1 hy2 ⟨hx1, hx2⟩
              obtain ⟨hxy1, hxy2⟩ := hxy
              have hs3 : s ≤ 1350851717672992089 := by omega
              have HT := Lib.hid (And.intro ht (And.intro hkR hset))
              clear ht hkR hset hxx hyy hss hrow hrow2 hs2
              go_wp2
              refine wp_region_tail (by kernel_rfl) 29 (.known ?hx8_11_v0 :: .known ?hx8_11_v1 :: .known ?hx8_11_v2 :: .known ?hx8_11_v3 :: .known ?hx8_11_v4 :: .known ?hx8_11_v5 :: .known ?hx8_11_v6 :: .known ?hx8_11_v7 :: .known ?hx8_11_v8 :: .known ?hx8_11_v9 :: .known ?hx8_11_v10 :: .known ?hx8_11_v11 :: .known ?hx8_11_v12 :: .known ?hx8_11_v13 :: .known ?hx8_11_v14 :: .known ?hx8_11_v15 :: .known ?hx8_11_v16 :: .known ?hx8_11_v17 :: .known ?hx8_11_v18 :: .known ?hx8_11_v19 :: .known ?hx8_11_v20 :: .known ?hx8_11_v21 :: .known ?hx8_11_v22 :: .known ?hx8_11_v23 :: .known ?hx8_11_v24 :: .known ?hx8_11_v25 :: .known ?hx8_11_v26 :: .known ?hx8_11_v27 :: .known ?hx8_11_v28 :: []) rfl (by decide) (by kernel_rfl) (by kernel_rfl) ?hx8_11_s ?hx8_11_p
              case hx8_11_s =>
                intro vs
                refine ⟨fun w' hxw hj => ?_, fun w' hxw hj => ?_, fun w' hxw hj => ?_, fun w' hxw hj => ?_, fun w' hxw hj => ?_, fun w' hxw hj => ?_, fun w' hxw hj => ?_, fun w' hxw hj => ?_, fun w' hxw hj => ?_, fun w' hxw hj => ?_, fun w' hxw hj => ?_, fun w' hxw hj => ?_, fun w' hxw hj => ?_, fun w' hxw hj => ?_, fun w' hxw hj => ?_, fun w' hxw hj => ?_, fun w' hxw hj => ?_, fun w' hxw hj => ?_, fun w' hxw hj => ?_, fun w' hxw hj => ?_, fun w' hxw hj => ?_, fun w' hxw hj => ?_, fun w' hxw hj => ?_, fun w' hxw hj => ?_, fun w' hxw hj => ?_, fun w' hxw hj => ?_, fun w' hxw hj => ?_, fun w' hxw hj => ?_, fun w' hxw hj => ?_, trivial⟩
                · have hcA := Ext.cell_some hxw hcA
                  have hcA' := Ext.cell_some hxw hcA'
                  have hcB := Ext.cell_some hxw hcB
                  have hcB' := Ext.cell_some hxw hcB'
                  have hsp := Ext.cell_some hxw hsp
                  have hat := Ext.cell_some hxw hat
                  clear hj
                  go_simp
                  try go_bits
                  first | rfl | (rw [if_pos (by omega), if_pos (by omega)]; go_simp; rfl) | (rw [if_pos (by omega)]; go_simp; rfl) | skip
                · have hcA := Ext.cell_some hxw hcA
                  have hcA' := Ext.cell_some hxw hcA'
                  have hcB := Ext.cell_some hxw hcB
                  have hcB' := Ext.cell_some hxw hcB'
                  have hsp := Ext.cell_some hxw hsp
                  have hat := Ext.cell_some hxw hat
                  clear hj
                  go_simp
                  try go_bits
                  first | rfl | (rw [if_pos (by omega), if_pos (by omega)]; go_simp; rfl) | (rw [if_pos (by omega)]; go_simp; rfl) | skip
                · have hcA := Ext.cell_some hxw hcA
                  have hcA' := Ext.cell_some hxw hcA'
                  have hcB := Ext.cell_some hxw hcB
                  have hcB' := Ext.cell_some hxw hcB'
                  have hsp := Ext.cell_some hxw hsp
                  have hat := Ext.cell_some hxw hat
                  clear hj
                  go_simp
                  try go_bits
                  first | rfl | (rw [if_pos (by omega), if_pos (by omega)]; go_simp; rfl) | (rw [if_pos (by omega)]; go_simp; rfl) | skip
                · have hcA := Ext.cell_some hxw hcA
                  have hcA' := Ext.cell_some hxw hcA'
                  have hcB := Ext.cell_some hxw hcB
                  have hcB' := Ext.cell_some hxw hcB'
                  have hsp := Ext.cell_some hxw hsp
                  have hat := Ext.cell_some hxw hat
                  clear hj
                  go_simp
                  try go_bits
                  first | rfl | (rw [if_pos (by omega), if_pos (by omega)]; go_simp; rfl) | (rw [if_pos (by omega)]; go_simp; rfl) | skip
                · have hcA := Ext.cell_some hxw hcA
                  have hcA' := Ext.cell_some hxw hcA'
                  have hcB := Ext.cell_some hxw hcB
                  have hcB' := Ext.cell_some hxw hcB'
                  have hsp := Ext.cell_some hxw hsp
                  have hat := Ext.cell_some hxw hat
                  clear hj
                  go_simp
                  try go_bits
                  first | rfl | (rw [if_pos (by omega), if_pos (by omega)]; go_simp; rfl) | (rw [if_pos (by omega)]; go_simp; rfl) | skip
                · have hcA := Ext.cell_some hxw hcA
                  have hcA' := Ext.cell_some hxw hcA'
                  have hcB := Ext.cell_some hxw hcB
                  have hcB' := Ext.cell_some hxw hcB'
                  have hsp := Ext.cell_some hxw hsp
                  have hat := Ext.cell_some hxw hat
                  clear hj
                  go_simp
                  try go_bits
                  first | rfl | (rw [if_pos (by omega), if_pos (by omega)]; go_simp; rfl) | (rw [if_pos (by omega)]; go_simp; rfl) | skip
                · have hcA := Ext.cell_some hxw hcA
                  have hcA' := Ext.cell_some hxw hcA'
                  have hcB := Ext.cell_some hxw hcB
                  have hcB' := Ext.cell_some hxw hcB'
                  have hsp := Ext.cell_some hxw hsp
                  have hat := Ext.cell_some hxw hat
                  clear hj
                  go_simp
                  try go_bits
                  first | rfl | (rw [if_pos (by omega), if_pos (by omega)]; go_simp; rfl) | (rw [if_pos (by omega)]; go_simp; rfl) | skip
                · have hcA := Ext.cell_some hxw hcA
                  have hcA' := Ext.cell_some hxw hcA'
                  have hcB := Ext.cell_some hxw hcB
                  have hcB' := Ext.cell_some hxw hcB'
                  have hsp := Ext.cell_some hxw hsp
                  have hat := Ext.cell_some hxw hat
                  clear hj
                  go_simp
                  try go_bits
                  first | rfl | (rw [if_pos (by omega), if_pos (by omega)]; go_simp; rfl) | (rw [if_pos (by omega)]; go_simp; rfl) | skip
                · have hcA := Ext.cell_some hxw hcA
                  have hcA' := Ext.cell_some hxw hcA'
                  have hcB := Ext.cell_some hxw hcB
                  have hcB' := Ext.cell_some hxw hcB'
                  have hsp := Ext.cell_some hxw hsp
                  have hat := Ext.cell_some hxw hat
                  clear hj
                  go_simp
                  try go_bits
                  first | rfl | (rw [if_pos (by omega), if_pos (by omega)]; go_simp; rfl) | (rw [if_pos (by omega)]; go_simp; rfl) | skip
                · have hcA := Ext.cell_some hxw hcA
                  have hcA' := Ext.cell_some hxw hcA'
                  have hcB := Ext.cell_some hxw hcB
                  have hcB' := Ext.cell_some hxw hcB'
                  have hsp := Ext.cell_some hxw hsp
                  have hat := Ext.cell_some hxw hat
                  clear hj
                  go_simp
                  try go_bits
                  first | rfl | (rw [if_pos (by omega), if_pos (by omega)]; go_simp; rfl) | (rw [if_pos (by omega)]; go_simp; rfl) | skip
                · have hcA := Ext.cell_some hxw hcA
                  have hcA' := Ext.cell_some hxw hcA'
                  have hcB := Ext.cell_some hxw hcB
                  have hcB' := Ext.cell_some hxw hcB'
                  have hsp := Ext.cell_some hxw hsp
                  have hat := Ext.cell_some hxw hat
                  clear hj
                  go_simp
                  try go_bits
                  first | rfl | (rw [if_pos (by omega), if_pos (by omega)]; go_simp; rfl) | (rw [if_pos (by omega)]; go_simp; rfl) | skip
                · have hcA := Ext.cell_some hxw hcA
                  have hcA' := Ext.cell_some hxw hcA'
                  have hcB := Ext.cell_some hxw hcB
                  have hcB' := Ext.cell_some hxw hcB'
                  have hsp := Ext.cell_some hxw hsp
                  have hat := Ext.cell_some hxw hat
                  clear hj
                  go_simp
                  try go_bits
                  first | rfl | (rw [if_pos (by omega), if_pos (by omega)]; go_simp; rfl) | (rw [if_pos (by omega)]; go_simp; rfl) | skip
                · have hcA := Ext.cell_some hxw hcA
                  have hcA' := Ext.cell_some hxw hcA'
                  have hcB := Ext.cell_some hxw hcB
                  have hcB' := Ext.cell_some hxw hcB'
                  have hsp := Ext.cell_some hxw hsp
                  have hat := Ext.cell_some hxw hat
                  clear hj
                  go_simp
                  try go_bits
                  first | rfl | (rw [if_pos (by omega), if_pos (by omega)]; go_simp; rfl) | (rw [if_pos (by omega)]; go_simp; rfl) | skip
                · have hcA := Ext.cell_some hxw hcA
                  have hcA' := Ext.cell_some hxw hcA'
                  have hcB := Ext.cell_some hxw hcB
                  have hcB' := Ext.cell_some hxw hcB'
                  have hsp := Ext.cell_some hxw hsp
                  have hat := Ext.cell_some hxw hat
                  clear hj
                  go_simp
                  try go_bits
                  first | rfl | (rw [if_pos (by omega), if_pos (by omega)]; go_simp; rfl) | (rw [if_pos (by omega)]; go_simp; rfl) | skip
                · have hcA := Ext.cell_some hxw hcA
                  have hcA' := Ext.cell_some hxw hcA'
                  have hcB := Ext.cell_some hxw hcB
                  have hcB' := Ext.cell_some hxw hcB'
                  have hsp := Ext.cell_some hxw hsp
                  have hat := Ext.cell_some hxw hat
                  clear hj
                  go_simp
                  try go_bits
                  first | rfl | (rw [if_pos (by omega), if_pos (by omega)]; go_simp; rfl) | (rw [if_pos (by omega)]; go_simp; rfl) | skip
                · have hcA := Ext.cell_some hxw hcA
                  have hcA' := Ext.cell_some hxw hcA'
                  have hcB := Ext.cell_some hxw hcB
                  have hcB' := Ext.cell_some hxw hcB'
                  have hsp := Ext.cell_some hxw hsp
                  have hat := Ext.cell_some hxw hat
                  clear hj
                  go_simp
                  try go_bits
                  first | rfl | (rw [if_pos (by omega), if_pos (by omega)]; go_simp; rfl) | (rw [if_pos (by omega)]; go_simp; rfl) | skip
                · have hcA := Ext.cell_some hxw hcA
                  have hcA' := Ext.cell_some hxw hcA'
                  have hcB := Ext.cell_some hxw hcB
                  have hcB' := Ext.cell_some hxw hcB'
                  have hsp := Ext.cell_some hxw hsp
                  have hat := Ext.cell_some hxw hat
                  clear hj
                  go_simp
                  try go_bits
                  first | rfl | (rw [if_pos (by omega), if_pos (by omega)]; go_simp; rfl) | (rw [if_pos (by omega)]; go_simp; rfl) | skip
                · have hcA := Ext.cell_some hxw hcA
                  have hcA' := Ext.cell_some hxw hcA'
                  have hcB := Ext.cell_some hxw hcB
                  have hcB' := Ext.cell_some hxw hcB'
                  have hsp := Ext.cell_some hxw hsp
                  have hat := Ext.cell_some hxw hat
                  clear hj
                  go_simp
                  try go_bits
                  first | rfl | (rw [if_pos (by omega), if_pos (by omega)]; go_simp; rfl) | (rw [if_pos (by omega)]; go_simp; rfl) | skip
                · have hcA := Ext.cell_some hxw hcA
                  have hcA' := Ext.cell_some hxw hcA'
                  have hcB := Ext.cell_some hxw hcB
                  have hcB' := Ext.cell_some hxw hcB'
                  have hsp := Ext.cell_some hxw hsp
                  have hat := Ext.cell_some hxw hat
                  clear hj
                  go_simp
                  try go_bits
                  first | rfl | (rw [if_pos (by omega), if_pos (by omega)]; go_simp; rfl) | (rw [if_pos (by omega)]; go_simp; rfl) | skip
                · have hcA := Ext.cell_some hxw hcA
                  have hcA' := Ext.cell_some hxw hcA'
                  have hcB := Ext.cell_some hxw hcB
                  have hcB' := Ext.cell_some hxw hcB'
                  have hsp := Ext.cell_some hxw hsp
                  have hat := Ext.cell_some hxw hat
                  clear hj
                  go_simp
                  try go_bits
                  first | rfl | (rw [if_pos (by omega), if_pos (by omega)]; go_simp; rfl) | (rw [if_pos (by omega)]; go_simp; rfl) | skip
                · have hcA := Ext.cell_some hxw hcA
                  have hcA' := Ext.cell_some hxw hcA'
                  have hcB := Ext.cell_some hxw hcB
                  have hcB' := Ext.cell_some hxw hcB'
                  have hsp := Ext.cell_some hxw hsp
                  have hat := Ext.cell_some hxw hat
                  clear hj
                  go_simp
                  try go_bits
                  first | rfl | (rw [if_pos (by omega), if_pos (by omega)]; go_simp; rfl) | (rw [if_pos (by omega)]; go_simp; rfl) | skip
                · have hcA := Ext.cell_some hxw hcA
                  have hcA' := Ext.cell_some hxw hcA'
                  have hcB := Ext.cell_some hxw hcB
                  have hcB' := Ext.cell_some hxw hcB'
                  have hsp := Ext.cell_some hxw hsp
                  have hat := Ext.cell_some hxw hat
                  clear hj
                  go_simp
                  try go_bits
                  first | rfl | (rw [if_pos (by omega), if_pos (by omega)]; go_simp; rfl) | (rw [if_pos (by omega)]; go_simp; rfl) | skip
                · have hcA := Ext.cell_some hxw hcA
                  have hcA' := Ext.cell_some hxw hcA'
                  have hcB := Ext.cell_some hxw hcB
                  have hcB' := Ext.cell_some hxw hcB'
                  have hsp := Ext.cell_some hxw hsp
                  have hat := Ext.cell_some hxw hat
                  clear hj
                  go_simp
                  try go_bits
                  first | rfl | (rw [if_pos (by omega), if_pos (by omega)]; go_simp; rfl) | (rw [if_pos (by omega)]; go_simp; rfl) | skip
                · have hcA := Ext.cell_some hxw hcA
                  have hcA' := Ext.cell_some hxw hcA'
                  have hcB := Ext.cell_some hxw hcB
                  have hcB' := Ext.cell_some hxw hcB'
                  have hsp := Ext.cell_some hxw hsp
                  have hat := Ext.cell_some hxw hat
                  clear hj
                  go_simp
                  try go_bits
                  first | rfl | (rw [if_pos (by omega), if_pos (by omega)]; go_simp; rfl) | (rw [if_pos (by omega)]; go_simp; rfl) | skip
                · have hcA := Ext.cell_some hxw hcA
                  have hcA' := Ext.cell_some hxw hcA'
                  have hcB := Ext.cell_some hxw hcB
                  have hcB' := Ext.cell_some hxw hcB'
                  have hsp := Ext.cell_some hxw hsp
                  have hat := Ext.cell_some hxw hat
                  clear hj
                  go_simp
                  try go_bits
                  first | rfl | (rw [if_pos (by omega), if_pos (by omega)]; go_simp; rfl) | (rw [if_pos (by omega)]; go_simp; rfl) | skip
                · have hcA := Ext.cell_some hxw hcA
                  have hcA' := Ext.cell_some hxw hcA'
                  have hcB := Ext.cell_some hxw hcB
                  have hcB' := Ext.cell_some hxw hcB'
                  have hsp := Ext.cell_some hxw hsp
                  have hat := Ext.cell_some hxw hat
                  clear hj
                  go_simp
                  try go_bits
                  first | rfl | (rw [if_pos (by omega), if_pos (by omega)]; go_simp; rfl) | (rw [if_pos (by omega)]; go_simp; rfl) | skip
                · have hcA := Ext.cell_some hxw hcA
                  have hcA' := Ext.cell_some hxw hcA'
                  have hcB := Ext.cell_some hxw hcB
                  have hcB' := Ext.cell_some hxw hcB'
                  have hsp := Ext.cell_some hxw hsp
                  have hat := Ext.cell_some hxw hat
                  clear hj
                  go_simp
                  try go_bits
                  first | rfl | (rw [if_pos (by omega), if_pos (by omega)]; go_simp; rfl) | (rw [if_pos (by omega)]; go_simp; rfl) | skip
                · have hcA := Ext.cell_some hxw hcA
                  have hcA' := Ext.cell_some hxw hcA'
                  have hcB := Ext.cell_some hxw hcB
                  have hcB' := Ext.cell_some hxw hcB'
                  have hsp := Ext.cell_some hxw hsp
                  have hat := Ext.cell_some hxw hat
                  clear hj
                  go_simp
                  try go_bits
                  first | rfl | (rw [if_pos (by omega), if_pos (by omega)]; go_simp; rfl) | (rw [if_pos (by omega)]; go_simp; rfl) | skip
                · have hcA := Ext.cell_some hxw hcA
                  have hcA' := Ext.cell_some hxw hcA'
                  have hcB := Ext.cell_some hxw hcB
                  have hcB' := Ext.cell_some hxw hcB'
                  have hsp := Ext.cell_some hxw hsp
                  have hat := Ext.cell_some hxw hat
                  clear hj
                  go_simp
                  try go_bits
                  first | rfl | (rw [if_pos (by omega), if_pos (by omega)]; go_simp; rfl) | (rw [if_pos (by omega)]; go_simp; rfl) | skip
              case' hx8_11_p =>
                intro vs w8 hx8 hk
                clear hk
                replace hcA := Ext.cell_some hx8 hcA
                replace hcA' := Ext.cell_some hx8 hcA'
                replace hcB := Ext.cell_some hx8 hcB
                replace hcB' := Ext.cell_some hx8 hcB'
                replace hsp := Ext.cell_some hx8 hsp
                replace hat := Ext.cell_some hx8 hat
                replace hx := Ext.trans hx hx8
                go_simp
                have ht8 := HT.out.1.ext hx8
                have hf8 := ht8.frozen i j HT.out.2.1
                have hs8 := ht8.set i j HT.out.2.1 (s + x * y)
                rw [HT.out.2.2] at hs8
                have hx9 := hx.setCell (p := ⟨gs i, j, none⟩) (ht8.rowlt i HT.out.2.1).1 (.int .i64 (s + x * y))
                have H8 := Lib.hid (And.intro hs8 hx9)
                clear ht8 hs8 hx9 hx8 hx
                go_wp2
                go_roundw
                case rel => exact ⟨k + 1, by omega, by go_num, H8.out.1, H8.out.2⟩
                case measure => simp [intOf]; omega
            · have hkn : k = n := by omega
              rw [hkn, cellTo_col] at ht
              subst hkn
              go_wp2
              go_roundw
              case rel => exact ⟨j + 1, by omega, by go_num, ht, hx⟩
              case measure => simp [intOf]; omega
        · have hjn : j = n := by omega
          rw [hjn, cellTo_row] at ht
          subst hjn
          go_wp2
          go_roundw
          case rel => exact ⟨i + 1, by omega, by go_num, ht, hx⟩
          case measure => simp [intOf]; omega
    · have hin : i = R := by omega
      rw [hin, cellTo_all] at ht
      subst hin
      have HR := Lib.hid (ht.reads HF.out.2.2.2.1.symm)
      clear ht
      go_wp2
      go_ret
      exact ⟨_, rfl, HR.out, hx⟩

theorem word_in2 {K : Nat} {F : List (List UInt8)} {u : List UInt8} (h : u ∈ statesL K F) : u ∈ languageL K F 2 := by
  unfold languageL
  have hl := wordsL_len (statesL_word h)
  refine List.mem_filter.2 ⟨statesL_word h, ?_⟩
  unfold hasL
  rw [if_neg (by omega), statesL_avoid h, Bool.true_and]
  have h1 : (statesL K F).any (fun x => x == u) = true := by
    rw [List.any_eq_true]
    exact ⟨u, h, by simp⟩
  rw [List.take_of_length_le (by omega), hl]
  show ((statesL K F).any (fun x => x == u) && (statesL K F).any (fun x => x == u)) = true
  rw [h1]
  rfl
theorem lang_low {L n : Int} {F : List (List UInt8)} (hg : graphO L F = none) (h : shiftOk L F = true) (h0 : 0 ≤ n) (h2 : n < 2) : langOf L F n = [] := by
  obtain ⟨K, rfl, hf⟩ := ShFit.of h
  have hl : (langOf K F 2).length = 0 := by
    unfold graphO at hg
    by_cases h : (langOf K F 2).length = 0
    · exact h
    · rw [if_neg h] at hg; cases hg
  have e2 := langOf_yes (n := 2) hf (by omega)
  rw [show ((2 : Nat) : Int) = 2 from rfl] at e2
  rw [e2] at hl
  have hs : statesL K F = [] := by
    cases hs : statesL K F with
    | nil => rfl
    | cons u r =>
      have := word_in2 (K := K) (F := F) (u := u) (by rw [hs]; exact List.mem_cons_self)
      rw [List.eq_nil_of_length_eq_zero hl] at this
      cases this
  obtain ⟨m, rfl⟩ := Int.eq_ofNat_of_zero_le h0
  rw [langOf_yes hf (by omega)]
  unfold languageL
  rw [List.filter_eq_nil_iff]
  intro x hx
  unfold hasL
  rw [if_pos (by rw [wordsL_len hx]; omega), hs]
  simp
theorem cntW_none' {L n : Int} {F : List (List UInt8)} (h : shiftOk L F = true) (h0 : 0 ≤ n) (h20 : n ≤ 20) (hg : graphO L F = none) : cntW L F n = 0 := by
  by_cases h2 : n < 2
  · rw [cntW_low h h0 h2, lang_low hg h h0 h2]; rfl
  · exact cntW_none h (by omega) h20 hg
theorem row_one {w : World} {E : TypeId} {a : Option Addr} {N c : Nat} {f : Nat → Int} (h : ReadsI w (.slice a N c) (rowF N f)) :
    ReadsRows (w.alloc (.cells #[.slice a N c] E)) (.slice (some ⟨w.heap.size, 0, none⟩) 1 1) (tabF 1 N fun _ => f) := by
  have ho := Own.lit w E [.slice a N c] (by simp [maxLen])
  have e : tabF 1 N (fun _ => f) = [rowF N f] := rfl
  rw [e]
  refine ⟨[.slice a N c], rfl, ho.reads, fun i hi => ?_⟩
  have h0 : i = 0 := by simpa using hi
  subst h0
  exact ⟨_, rfl, h.ext (Ext.alloc _ _)⟩

set_option maxRecDepth 100000 in
set_option maxHeartbeats 8000000 in
theorem spec_CountWords_any (L n : Int) (v : Value) (F : List (List UInt8)) (w : World) (h : ReadsW w v F) (hF : ∀ f ∈ F, f.length ≤ maxLen) :
    Calls Tryz.prog 14 #[.agg #[.int .i64 L, v], .int .i64 n] w fun e w' => e = .returned (.int .i64 (cntW L F n)) ∧ Ext w w' := by
  obtain ⟨pa, ca, rfl⟩ := h.slice
  have hx := Ext.alloc w (.cells #[.int .i64 L, .slice pa F.length ca] 26)
  have bo : Blk (w.alloc (.cells #[.int .i64 L, .slice pa F.length ca] 26)) w.heap.size #[.int .i64 L, .slice pa F.length ca] := by (repeat (first | (refine Blk.mk' ?_; (simp; done)) | apply Blk.old))
  have HS := Lib.hid (And.intro h hF)
  clear h hF
  obtain ⟨ok, hok⟩ : ∃ ok, ok = shiftOk L F := ⟨_, rfl⟩
  have hcall := fun w h => spec_IsShift_any L (.slice pa F.length ca) F w h HS.out.2
  rw [← hok] at hcall
  obtain ⟨rg, hrg⟩ : ∃ r, r = (decide (0 ≤ n) && decide (n ≤ 20)) := ⟨_, rfl⟩
  have hcall2 := fun w => spec_l1In_any n 0 20 w
  rw [← hrg] at hcall2
  have HC := Lib.hid (And.intro hcall (And.intro hok (And.intro hcall2 hrg)))
  clear hcall hok hcall2 hrg
  have c0 := bo.cell 0 _ rfl
  have c1 := bo.cell 1 _ rfl
  cases ok
  · have HN := Lib.hid (cntW_no (n := n) (.inl HC.out.2.1.symm))
    go_enter Tryz.func14, Tryz.ntmps14
    go_wp2_with fail
    with_reducible refine (HC.out.1 _ (HS.out.1.ext hx)).mono ?_
    rintro e w1 ⟨rfl, hy⟩
    replace hx := hx.trans hy
    replace bo := bo.ext hy
    clear hy c0 c1
    have c0 := bo.cell 0 _ rfl
    have c1 := bo.cell 1 _ rfl
    go_wp2
    go_ret
    exact ⟨ret_int HN.out.symm, hx⟩
  cases rg
  · have HN := Lib.hid (cntW_no (L := L) (F := F) (n := n) (by
      have := HC.out.2.2.2
      by_cases h0 : n < 0
      · exact .inr (.inl h0)
      · by_cases h6 : 20 < n
        · exact .inr (.inr h6)
        · rw [decide_eq_true (show 0 ≤ n by omega), decide_eq_true (show n ≤ 20 by omega)] at this
          cases this))
    go_enter Tryz.func14, Tryz.ntmps14
    go_wp2_with fail
    with_reducible refine (HC.out.1 _ (HS.out.1.ext hx)).mono ?_
    rintro e w1 ⟨rfl, hy⟩
    replace hx := hx.trans hy
    replace bo := bo.ext hy
    clear hy c0 c1
    have c0 := bo.cell 0 _ rfl
    have c1 := bo.cell 1 _ rfl
    go_wp2_with fail
    with_reducible refine (HC.out.2.2.1 _).mono ?_
    rintro e wx ⟨rfl, rfl⟩
    go_wp2
    go_ret
    exact ⟨ret_int HN.out.symm, hx⟩
  have hn : 0 ≤ n ∧ n ≤ 20 := by
    have := HC.out.2.2.2
    simpa using this.symm
  obtain ⟨m, rfl⟩ := Int.eq_ofNat_of_zero_le hn.1
  have hm20 : m ≤ 20 := by omega
  clear hn
  have hg := fun w h => spec_GraphOf_any L (.slice pa F.length ca) F w h HS.out.2
  cases ho : graphO L F with
  | none =>
    rw [ho] at hg
    have HG := Lib.hid (And.intro hg (cntW_none' HC.out.2.1.symm (n := (m : Int)) (by omega) (by omega) ho))
    clear ho hg
    go_enter Tryz.func14, Tryz.ntmps14
    go_wp2_with fail
    with_reducible refine (HC.out.1 _ (HS.out.1.ext hx)).mono ?_
    rintro e w1 ⟨rfl, hy⟩
    replace hx := hx.trans hy
    replace bo := bo.ext hy
    clear hy c0 c1
    have c0 := bo.cell 0 _ rfl
    have c1 := bo.cell 1 _ rfl
    go_wp2_with fail
    with_reducible refine (HC.out.2.2.1 _).mono ?_
    rintro e wx ⟨rfl, rfl⟩
    go_wp2_with fail
    with_reducible refine (HG.out.1 _ (HS.out.1.ext hx)).mono ?_
    rintro e w2 ⟨u, rfl, hres, hy⟩
    replace hx := hx.trans hy
    replace bo := bo.ext hy
    clear hy c0 c1
    have c0 := bo.cell 0 _ rfl
    have c1 := bo.cell 1 _ rfl
    clear hres c0 c1
    go_wp2
    go_ret
    exact ⟨ret_int HG.out.2.symm, hx⟩
  | some T =>
    rw [ho] at hg
    by_cases h2 : m < 2
    · have HG := Lib.hid (And.intro hg (cntW_low HC.out.2.1.symm (n := (m : Int)) (by omega) (by omega)))
      have hlt2 : decide ((m : Int) < 2) = true := by simp; omega
      clear ho hg
      go_enter Tryz.func14, Tryz.ntmps14
      go_wp2_with fail
      with_reducible refine (HC.out.1 _ (HS.out.1.ext hx)).mono ?_
      rintro e w1 ⟨rfl, hy⟩
      replace hx := hx.trans hy
      replace bo := bo.ext hy
      clear hy c0 c1
      have c0 := bo.cell 0 _ rfl
      have c1 := bo.cell 1 _ rfl
      go_wp2_with fail
      with_reducible refine (HC.out.2.2.1 _).mono ?_
      rintro e wx ⟨rfl, rfl⟩
      go_wp2_with fail
      with_reducible refine (HG.out.1 _ (HS.out.1.ext hx)).mono ?_
      rintro e w2 ⟨u, rfl, hres, hy⟩
      replace hx := hx.trans hy
      replace bo := bo.ext hy
      clear hy c0 c1
      have c0 := bo.cell 0 _ rfl
      have c1 := bo.cell 1 _ rfl
      clear hres
      go_wp2_with fail
      with_reducible refine (spec_LanguageOf_any L _ _ F _ (HS.out.1.ext hx) HS.out.2).mono ?_
      rintro e w3 ⟨z, rfl, hz, hy⟩
      obtain ⟨pz, cz, rfl⟩ := (Own.readsW hz).slice
      replace hx := hx.trans hy
      clear hy hz c0 c1
      go_wp2
      go_ret
      exact ⟨ret_int HG.out.2.symm, hx⟩
    · obtain ⟨⟨hN1, hN9⟩, hrow, h01⟩ := graph_01 ho
      have hv := cntW_some HC.out.2.1.symm (n := (m : Int)) (by omega) (by omega) ho
      rw [show ((m : Int) - 2).toNat = m - 2 by omega, ← row_col] at hv
      obtain ⟨N, hN⟩ : ∃ N, N = T.length := ⟨_, rfl⟩
      rw [← hN] at hN1 hN9 hrow hv
      have hbd := fun k i => rowC_bd h01 hN9 k i
      have HG := Lib.hid (And.intro hg (And.intro hrow (And.intro hv (And.intro hN (And.intro hbd h01)))))
      have hm2 : (2 : Int) ≤ (m : Int) := by omega
      clear ho hg hrow hv hN hbd h01 h2
      go_enter Tryz.func14, Tryz.ntmps14
      go_wp2_with fail
      with_reducible refine (HC.out.1 _ (HS.out.1.ext hx)).mono ?_
      rintro e w1 ⟨rfl, hy⟩
      replace hx := hx.trans hy
      replace bo := bo.ext hy
      clear hy c0 c1
      have c0 := bo.cell 0 _ rfl
      have c1 := bo.cell 1 _ rfl
      go_wp2_with fail
      with_reducible refine (HC.out.2.2.1 _).mono ?_
      rintro e wx ⟨rfl, rfl⟩
      go_wp2_with fail
      with_reducible refine (HG.out.1 _ (HS.out.1.ext hx)).mono ?_
      rintro e w2 ⟨u, rfl, hres, hy⟩
      replace hx := hx.trans hy
      replace bo := bo.ext hy
      clear hy c0 c1
      have c0 := bo.cell 0 _ rfl
      have c1 := bo.cell 1 _ rfl
      have hrd := hres
      rw [Option.getD_some] at hrd
      obtain ⟨pu, cu, rfl⟩ := hrd.slice
      obtain ⟨-, hlu, hcu⟩ := hrd.len
      rw [← HG.out.2.2.2.1] at hrd hlu ⊢
      have HR := Lib.hid hrd
      clear hres c0 c1 hrd bo
      have hB0 : Own (w2.alloc (.cells #[] 3)) w2.heap.size 3 (.slice (some ⟨w2.heap.size, 0, none⟩) 0 0) (icells (rowF 0 (rowC (at2 T) N 0))) := Own.lit w2 3 [] (by simp)
      have hxz := Ext.alloc w2 (.cells #[] 3)
      go_wp2
      go_loopw [7, 8] (fun z i wr => ∃ k : Nat, k ≤ N ∧ i = .int .i64 k ∧ Own wr w2.heap.size 3 z (icells (rowF k (rowC (at2 T) N 0))) ∧ Ext w2 wr) (fun _ i _ => N - (intOf i).toNat)
      case atStart => exact ⟨0, by omega, rfl, hB0, hxz⟩
      case round =>
        clear hB0 hxz
        obtain ⟨k, hk, rfl, hown, hxr⟩ := hrel
        by_cases hlt : k < N
        · have HF2 := Lib.hid (show icells (rowF (k + 1) (rowC (at2 T) N 0)) = icells (rowF k (rowC (at2 T) N 0)) ++ [.int .i64 1] by rw [rowF_succ, ← icells_snoc]; rfl)
          have hl1 : (icells (rowF k (rowC (at2 T) N 0))).length + 1 ≤ maxLen := by rw [icells_length, rowF_length]; unfold maxLen; omega
          have hl2 : ((icells (rowF k (rowC (at2 T) N 0))).length + 1) * 8 ≤ 140737488355328 := by rw [icells_length, rowF_length]; omega
          obtain ⟨w6, rfl⟩ : ∃ w6 : World, w6 = wr := ⟨_, rfl⟩
          go_wp2_with (at_builtin; refine wpList_append_one rfl (.tmp 40) (.tmp 41) 52 rfl 3 _ _ Tryz.underlying52 infoInt rfl w2.heap.size _ _ rfl (hown.ext (Ext.alloc _ _)) w6.heap.size _ rfl (by simp; rfl) rfl hl1 hl2 w2 rfl (hxr.trans (Ext.alloc _ _)) ?_; intro v' w7 hown7 hx7 hmv)
          clear hmv
          go_roundw
          case rel => exact ⟨k + 1, by omega, by go_num, by rw [HF2.out]; exact hown7, hx7⟩
          case measure => simp [intOf]; omega
        · have hkN : k = N := by omega
          subst hkN
          have hrz := hown.readsI
          obtain ⟨az, cz, rfl⟩ := hrz.slice
          rw [rowF_length] at hrz ⊢
          clear hown
          go_wp2
          go_loopw [7, 9] (fun z i wr => ∃ (p : Nat) (a : Option Addr) (c : Nat), 2 ≤ p ∧ p ≤ m ∧ i = .int .i64 p ∧ z = .slice a k c ∧ ReadsI wr z (rowF k (rowC (at2 T) k (p - 2))) ∧ Ext w2 wr) (fun _ i _ => m - (intOf i).toNat)
          case atStart => exact ⟨2, _, _, by omega, by omega, rfl, rfl, hrz, hxr⟩
          case round =>
            clear hrz hxr hlt
            obtain ⟨p, a, c, hp2, hp, rfl, rfl, hrz, hxr⟩ := hrel
            by_cases hltp : p < m
            · obtain ⟨w6, rfl⟩ : ∃ w6 : World, w6 = wr := ⟨_, rfl⟩
              have hbk : ∀ i, 0 ≤ rowC (at2 T) k (p - 2) i ∧ rowC (at2 T) k (p - 2) i ≤ 150094635296999121 := fun i => by
                have h1 := HG.out.2.2.2.2.1 (p - 2) i
                have h2 := pow9_le (show p - 2 ≤ 18 by omega)
                omega
              have hxA := hxr.trans (Ext.alloc w6 (.cells #[.slice a k c] 52))
              have HT := Lib.hid (And.intro (row_one (E := 52) hrz) (And.intro (HR.out.ext hxA) hbk))
              clear hrz hbk
              go_wp2_with fail
              with_reducible refine (spec_l4TimesRow_any _ _ 1 k (fun _ => rowC (at2 T) k (p - 2)) T _ HT.out.1 HT.out.2.1 (by omega) hN9 hN1 HG.out.2.2.2.1.symm HG.out.2.1 (fun _ j => HT.out.2.2 j) HG.out.2.2.2.2.2).mono ?_
              rintro e w7 ⟨u, rfl, hu, hx7⟩
              obtain ⟨pq, cq, rfl⟩ := hu.slice
              obtain ⟨b0, o0, a0, c0, rfl, hcell, hr0⟩ := hu.at 0 (by rw [tabF_length]; omega)
              have hlq := hu.len.2.1
              rw [tabF_length] at hlq ⊢
              have er : rowF k (dotTo (fun _ => rowC (at2 T) k (p - 2)) (at2 T) k 0) = rowF k (rowC (at2 T) k (p + 1 - 2)) := by
                rw [show p + 1 - 2 = (p - 2) + 1 by omega]
                rfl
              rw [tabF_row _ _ _ 0 (by omega), rowF_length, Nat.add_zero] at hcell
              rw [tabF_row _ _ _ 0 (by omega), rowF_length, er] at hr0
              have hxw := hxA.trans hx7
              have HX := Lib.hid hr0
              clear hu hr0 er hxA hx7 hxr
              go_wp2
              go_roundw
              case rel => exact ⟨p + 1, _, _, by omega, by omega, by go_num, rfl, HX.out, hxw⟩
              case measure => simp [intOf]; omega
            · have hpm : p = m := by omega
              subst hpm
              have hbk : ∀ i, 0 ≤ rowC (at2 T) k (p - 2) i ∧ rowC (at2 T) k (p - 2) i ≤ 150094635296999121 := fun i => by
                have h1 := HG.out.2.2.2.2.1 (p - 2) i
                have h2 := pow9_le (show p - 2 ≤ 18 by omega)
                omega
              have hv := HG.out.2.2.1
              obtain ⟨f, hfd⟩ : ∃ f, f = rowC (at2 T) k (p - 2) := ⟨_, rfl⟩
              rw [← hfd] at hrz hbk
              have hv' : cntW L F p = sumN k f := by rw [hfd]; exact hv
              have HT := Lib.hid (And.intro hrz (And.intro hbk hv'))
              have hxw := hx.trans hxr
              have hlz := hrz.len.2.1
              clear hrz hbk hfd hv hv' hxr hx
              go_wp2
              go_loop [10, 11] (fun v i => ∃ j : Nat, j ≤ k ∧ i = .int .i64 j ∧ v = .int .i64 (sumN j f)) (fun _ i => k - (intOf i).toNat)
              case atStart => exact ⟨0, by omega, rfl, rfl⟩
              case round =>
                obtain ⟨j, hj, rfl, rfl⟩ := hrel
                by_cases hltj : j < k
                · obtain ⟨b, o, rfl, hcell⟩ := HT.out.1.at j (by rw [rowF_length]; exact hltj)
                  rw [rowF_at _ _ _ hltj] at hcell
                  have hs := sumN_succ j f
                  obtain ⟨hb1, hb2⟩ := sumN_bd HT.out.2.1 j
                  obtain ⟨hy1, hy2⟩ := HT.out.2.1 j
                  obtain ⟨y, hy⟩ : ∃ y, y = f j := ⟨_, rfl⟩
                  obtain ⟨s, hss⟩ : ∃ s, s = sumN j f := ⟨_, rfl⟩
                  rw [← hy] at hcell hs hy1 hy2
                  rw [← hss] at hs hb1 hb2 ⊢
                  have hb3 : s ≤ 1350851717672992089 := by omega
                  have HQ := Lib.hid hs
                  clear hs hy hss hb2
                  go_wp2
                  go_round
                  case rel => exact ⟨j + 1, by omega, by go_num, by rw [HQ.out]⟩
                  case measure => simp [intOf]; omega
                · have hjk : j = k := by omega
                  subst hjk
                  go_wp2
                  go_ret
                  exact ⟨ret_int HT.out.2.2.symm, hxw⟩
end Go.Proofs.YtfiembmfkokllaaGreat

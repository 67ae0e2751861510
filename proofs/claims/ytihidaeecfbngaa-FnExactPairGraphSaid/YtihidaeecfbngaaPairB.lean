/- Contracts: the graph of pairs, by the reference. -/
import Derived.Test.YtihidaeecfbngaaPairA
namespace Go.Proofs.Ytihidaeecfbngaa
open Go.RowKit Go.Mx

set_option maxRecDepth 100000 in
set_option maxHeartbeats 8000000 in
theorem spec_PairGraph_any (v v' : Value) (a b : List (List Int)) (w : World) (h : ReadsRows w v a) (h' : ReadsRows w v' b) :
    Calls Try.prog 43 #[v, v'] w fun e w' => ∃ u, e = .returned (.tuple #[u, .bool (pairO a b).isSome]) ∧ ReadsRows w' u ((pairO a b).getD []) ∧ Ext w w' := by
  have ha := spec_IsMatrix_any v a w h
  have hb := spec_IsMatrix_any v' b w h'
  cases hma : isMat a with
  | false =>
    rw [hma] at ha
    have HI := Lib.hid (And.intro ha (pairO_no (a := a) (b := b) (by rw [hma]; rfl)))
    clear ha hb hma
    go_enter Try.func43, Try.ntmps43
    go_wp2_with (go_at_call 70; with_reducible refine HI.out.1.mono ?_; rintro e w' ⟨rfl, rfl⟩)
    go_ret2
    exact ⟨_, by rw [HI.out.2]; rfl, by rw [HI.out.2]; exact spec_nil_rows w, Ext.alloc _ _⟩
  | true => cases hmb : isMat b with
  | false =>
    rw [hma] at ha
    rw [hmb] at hb
    have HI := Lib.hid (And.intro ha (And.intro hb (pairO_no (a := a) (b := b) (by rw [hmb]; simp))))
    clear ha hb hma hmb
    go_enter Try.func43, Try.ntmps43
    go_wp2_with (first | (go_at_call 70; with_reducible refine HI.out.1.mono ?_; rintro e w' ⟨rfl, rfl⟩) | (go_at_call 70; with_reducible refine HI.out.2.1.mono ?_; rintro e w' ⟨rfl, rfl⟩))
    go_ret2
    exact ⟨_, by rw [HI.out.2.2]; rfl, by rw [HI.out.2.2]; exact spec_nil_rows w, Ext.alloc _ _⟩
  | true =>
    rw [hma] at ha
    rw [hmb] at hb
    have hMa := isMat_yes hma
    have hMb := isMat_yes hmb
    have hpo := pairO_yes (a := a) (b := b) (by rw [hma, hmb]; rfl)
    have hpn := pairO_bad (a := a) (b := b)
    have hpg := pairO_long (a := a) (b := b)
    obtain ⟨pa, ca, rfl⟩ := h.slice
    obtain ⟨pb, cb, rfl⟩ := h'.slice
    obtain ⟨-, hla1, hla2⟩ := h.len
    obtain ⟨-, hlb1, hlb2⟩ := h'.len
    have hFat : ∀ p q, pairF a b p q = at2 a (p / b.length) (q / b.length) * at2 b (p % b.length) (q % b.length) := fun p q => rfl
    have hpl := pairM_length a b
    have hpM : pairM a b = tabF (a.length * b.length) (a.length * b.length) (pairF a b) := rfl
    obtain ⟨na, hna⟩ : ∃ n, n = a.length := ⟨_, rfl⟩
    obtain ⟨nb, hnb⟩ : ∃ n, n = b.length := ⟨_, rfl⟩
    have hpa := hMa.pos
    have hpb := hMb.pos
    have h9a := hMa.le
    have h9b := hMb.le
    rw [← hna] at hMa hpl hpM hpg hpa h9a h ha hla1 ⊢
    rw [← hnb] at hMb hFat hpl hpM hpg hpb h9b h' hb hlb1 ⊢
    obtain ⟨F, hF⟩ : ∃ J, J = pairF a b := ⟨_, rfl⟩
    rw [← hF] at hFat hpM
    obtain ⟨N, hN⟩ : ∃ N, N = na * nb := ⟨_, rfl⟩
    have hNi : (na : Int) * (nb : Int) = (N : Int) := by rw [hN]; exact (Int.natCast_mul na nb).symm
    rw [← hN] at hpl hpM hpg
    have hN81 : N ≤ 81 := by rw [hN]; exact Nat.mul_le_mul h9a h9b
    have hz := spec_l4Zero_any N N w (by omega) (by omega)
    have hz0 : tabF N N (fun _ _ => 0) = tabF N N (maskF (doneB 0 0) F) := (fill_zero (fun _ _ h _ => by omega) (fun _ h => by omega)).symm
    rw [hz0] at hz
    have HM := Lib.hid (And.intro h (And.intro h' (And.intro hMa (And.intro hMb (And.intro ha (And.intro hb hz))))))
    have HF := Lib.hid hFat
    have HN := Lib.hid (And.intro hna (And.intro hnb (And.intro hpo (And.intro hpn (And.intro hpl (And.intro hpM (And.intro hN hpg)))))))
    clear ha hb hma hmb hFat hpo hpn hpl hpM hz hF hna hnb hN h h' hMa hMb hpg hz0
    by_cases h9 : N ≤ 9
    rotate_left
    · have HO := Lib.hid (HN.out.2.2.2.2.2.2.2 h9)
      have h91 : 9 < (N : Int) := by omega
      clear h9
      go_enter Try.func43, Try.ntmps43
      go_wp2_with (first | (go_at_call 70; with_reducible refine HM.out.2.2.2.2.1.mono ?_; rintro e w' ⟨rfl, rfl⟩) | (go_at_call 70; with_reducible refine HM.out.2.2.2.2.2.1.mono ?_; rintro e w' ⟨rfl, rfl⟩))
      go_ret2
      exact ⟨_, by rw [HO.out]; rfl, by rw [HO.out]; exact spec_nil_rows w, Ext.alloc _ _⟩
    go_enter Try.func43, Try.ntmps43
    go_wp2_with (first | (go_at_call 70; with_reducible refine HM.out.2.2.2.2.1.mono ?_; rintro e w' ⟨rfl, rfl⟩) | (go_at_call 70; with_reducible refine HM.out.2.2.2.2.2.1.mono ?_; rintro e w' ⟨rfl, rfl⟩) | (go_at_call 77; with_reducible refine HM.out.2.2.2.2.2.2.mono ?_; rintro e w1 ⟨g, cap, gs, cs, rfl, ht, hx⟩))
    go_loopw [8] (fun q wr => ∃ k : Nat, k ≤ N ∧ q = .int .i64 k ∧ MTab wr w.heap.size 22 3 g N cap gs cs (tabF N N (maskF (doneB k 0) F)) ∧ Ext w wr) (fun q _ => N - (intOf q).toNat)
    case atStart => exact ⟨0, by omega, rfl, ht, hx⟩
    case round =>
      clear ht hx
      obtain ⟨p, hp, rfl, ht, hx⟩ := hrel
      by_cases hltp : p < N
      · go_wp2
        go_loopw [9] (fun q wr => ∃ k : Nat, k ≤ N ∧ q = .int .i64 k ∧ MTab wr w.heap.size 22 3 g N cap gs cs (tabF N N (maskF (doneB p k) F)) ∧ Ext w wr) (fun q _ => N - (intOf q).toNat)
        case atStart => exact ⟨0, by omega, rfl, ht, hx⟩
        case round =>
          clear ht hx
          obtain ⟨r, hr, rfl, ht, hx⟩ := hrel
          by_cases hltr : r < N
          · obtain ⟨i, hi⟩ : ∃ i, i = p / nb := ⟨_, rfl⟩
            obtain ⟨j, hj⟩ : ∃ i, i = r / nb := ⟨_, rfl⟩
            obtain ⟨k, hk⟩ : ∃ i, i = p % nb := ⟨_, rfl⟩
            obtain ⟨l, hl⟩ : ∃ i, i = r % nb := ⟨_, rfl⟩
            have hin : i < na := by rw [hi, Nat.div_lt_iff_lt_mul (by omega), ← HN.out.2.2.2.2.2.2.1]; exact hltp
            have hjn : j < na := by rw [hj, Nat.div_lt_iff_lt_mul (by omega), ← HN.out.2.2.2.2.2.2.1]; exact hltr
            have hkn : k < nb := by rw [hk]; exact Nat.mod_lt _ (by omega)
            have hln : l < nb := by rw [hl]; exact Nat.mod_lt _ (by omega)
            have hie : (p : Int) / (nb : Int) = (i : Int) := by rw [hi]; exact (Int.natCast_ediv p nb).symm
            have hje : (r : Int) / (nb : Int) = (j : Int) := by rw [hj]; exact (Int.natCast_ediv r nb).symm
            have hke : (p : Int) % (nb : Int) = (k : Int) := by rw [hk]; exact (Int.natCast_emod p nb).symm
            have hle : (r : Int) % (nb : Int) = (l : Int) := by rw [hl]; exact (Int.natCast_emod r nb).symm
            have hval := HF.out p r
            rw [← hi, ← hj, ← hk, ← hl] at hval
            obtain ⟨bk, o, a', c', hpa1, hcA, hrow⟩ := HM.out.1.at i (by rw [← HN.out.1]; exact hin)
            obtain ⟨b', o', ha'1, hcA'⟩ := hrow.at j (by rw [HM.out.2.2.1.row i hin]; exact hjn)
            obtain ⟨bk2, o2, a2, c2, hpb1, hcB, hrow2⟩ := HM.out.2.1.at k (by rw [← HN.out.2.1]; exact hkn)
            obtain ⟨b2, o2', ha2, hcB'⟩ := hrow2.at l (by rw [HM.out.2.2.2.1.row k hkn]; exact hln)
            subst hpa1; subst ha'1; subst hpb1; subst ha2
            rw [HM.out.2.2.1.row i hin] at hcA hrow
            rw [HM.out.2.2.2.1.row k hkn] at hcB hrow2
            have hlc := hrow.len.2.1
            have hlc2 := hrow2.len.2.1
            replace hcA := hx.cell_some hcA
            replace hcA' := hx.cell_some hcA'
            replace hcB := hx.cell_some hcB
            replace hcB' := hx.cell_some hcB'
            have hxb := HM.out.2.2.1.at2_bd i j
            have hyb := HM.out.2.2.2.1.at2_bd k l
            unfold at2 at hxb hyb hval
            obtain ⟨x, hxx⟩ : ∃ x, x = (a.getD i []).getD j 0 := ⟨_, rfl⟩
            obtain ⟨y, hyy⟩ : ∃ y, y = (b.getD k []).getD l 0 := ⟨_, rfl⟩
            rw [← hxx] at hcA' hxb hval
            rw [← hyy] at hcB' hyb hval
            obtain ⟨hx1, hx2⟩ := hxb
            obtain ⟨hy1, hy2⟩ := hyb
            have hxy := mul_bd (x := x) (y := y) (a := 1000000) (b := 1000000) (by omega) hx2 (by omega) hy2
            obtain ⟨hxy1, hxy2⟩ := hxy
            have hkR : p < (tabF N N (maskF (doneB p r) F)).length := by rw [tabF_length]; exact hltp
            have hsp := ht.spot p hkR
            have hcp := (ht.row p hkR).caps.1
            rw [tabF_row_length hltp] at hsp hcp
            have HT := Lib.hid (And.intro ht (And.intro hkR hval))
            have HQ := Lib.hid (And.intro hke hle)
            clear ht hkR hval hxx hyy hi hj hk hl hrow hrow2
            go_wp2
            refine wp_region_tail (by kernel_rfl) 29 [.known ?hx8_1_v0, .known ?hx8_1_v1, .known ?hx8_1_v2, .known ?hx8_1_v3, .known ?hx8_1_v4, .known ?hx8_1_v5, .known ?hx8_1_v6, .known ?hx8_1_v7, .known ?hx8_1_v8, .known ?hx8_1_v9, .known ?hx8_1_v10, .known ?hx8_1_v11, .known ?hx8_1_v12, .known ?hx8_1_v13, .known ?hx8_1_v14, .known ?hx8_1_v15, .known ?hx8_1_v16, .known ?hx8_1_v17, .known ?hx8_1_v18, .known ?hx8_1_v19, .known ?hx8_1_v20, .known ?hx8_1_v21, .known ?hx8_1_v22, .known ?hx8_1_v23, .known ?hx8_1_v24, .known ?hx8_1_v25, .known ?hx8_1_v26, .known ?hx8_1_v27, .known ?hx8_1_v28] rfl (by decide) (by kernel_rfl) (by kernel_rfl) ?hx8_1_s ?hx8_1_p
            case hx8_1_s =>
              intro vs
              refine ⟨fun w' hxw hj => ?_, fun w' hxw hj => ?_, fun w' hxw hj => ?_, fun w' hxw hj => ?_, fun w' hxw hj => ?_, fun w' hxw hj => ?_, fun w' hxw hj => ?_, fun w' hxw hj => ?_, fun w' hxw hj => ?_, fun w' hxw hj => ?_, fun w' hxw hj => ?_, fun w' hxw hj => ?_, fun w' hxw hj => ?_, fun w' hxw hj => ?_, fun w' hxw hj => ?_, fun w' hxw hj => ?_, fun w' hxw hj => ?_, fun w' hxw hj => ?_, fun w' hxw hj => ?_, fun w' hxw hj => ?_, fun w' hxw hj => ?_, fun w' hxw hj => ?_, fun w' hxw hj => ?_, fun w' hxw hj => ?_, fun w' hxw hj => ?_, fun w' hxw hj => ?_, fun w' hxw hj => ?_, fun w' hxw hj => ?_, fun w' hxw hj => ?_, trivial⟩
              · have hcA := Ext.cell_some hxw hcA
                have hcA' := Ext.cell_some hxw hcA'
                have hcB := Ext.cell_some hxw hcB
                have hcB' := Ext.cell_some hxw hcB'
                have hsp := Ext.cell_some hxw hsp
                clear hj
                go_simp
                try go_bits
                first | rfl | (rw [if_pos (by omega), if_pos (by omega)]; go_simp; rfl) | (rw [if_pos (by omega)]; go_simp; rfl) | skip
              · have hcA := Ext.cell_some hxw hcA
                have hcA' := Ext.cell_some hxw hcA'
                have hcB := Ext.cell_some hxw hcB
                have hcB' := Ext.cell_some hxw hcB'
                have hsp := Ext.cell_some hxw hsp
                clear hj
                go_simp
                try go_bits
                first | rfl | (rw [if_pos (by omega), if_pos (by omega)]; go_simp; rfl) | (rw [if_pos (by omega)]; go_simp; rfl) | skip
              · have hcA := Ext.cell_some hxw hcA
                have hcA' := Ext.cell_some hxw hcA'
                have hcB := Ext.cell_some hxw hcB
                have hcB' := Ext.cell_some hxw hcB'
                have hsp := Ext.cell_some hxw hsp
                clear hj
                go_simp
                try go_bits
                first | rfl | (rw [if_pos (by omega), if_pos (by omega)]; go_simp; rfl) | (rw [if_pos (by omega)]; go_simp; rfl) | skip
              · have hcA := Ext.cell_some hxw hcA
                have hcA' := Ext.cell_some hxw hcA'
                have hcB := Ext.cell_some hxw hcB
                have hcB' := Ext.cell_some hxw hcB'
                have hsp := Ext.cell_some hxw hsp
                clear hj
                go_simp
                try go_bits
                first | rfl | (rw [if_pos (by omega), if_pos (by omega)]; go_simp; rfl) | (rw [if_pos (by omega)]; go_simp; rfl) | skip
              · have hcA := Ext.cell_some hxw hcA
                have hcA' := Ext.cell_some hxw hcA'
                have hcB := Ext.cell_some hxw hcB
                have hcB' := Ext.cell_some hxw hcB'
                have hsp := Ext.cell_some hxw hsp
                clear hj
                go_simp
                try go_bits
                first | rfl | (rw [if_pos (by omega), if_pos (by omega)]; go_simp; rfl) | (rw [if_pos (by omega)]; go_simp; rfl) | skip
              · have hcA := Ext.cell_some hxw hcA
                have hcA' := Ext.cell_some hxw hcA'
                have hcB := Ext.cell_some hxw hcB
                have hcB' := Ext.cell_some hxw hcB'
                have hsp := Ext.cell_some hxw hsp
                clear hj
                go_simp
                try go_bits
                first | rfl | (rw [if_pos (by omega), if_pos (by omega)]; go_simp; rfl) | (rw [if_pos (by omega)]; go_simp; rfl) | skip
              · have hcA := Ext.cell_some hxw hcA
                have hcA' := Ext.cell_some hxw hcA'
                have hcB := Ext.cell_some hxw hcB
                have hcB' := Ext.cell_some hxw hcB'
                have hsp := Ext.cell_some hxw hsp
                clear hj
                go_simp
                try go_bits
                first | rfl | (rw [if_pos (by omega), if_pos (by omega)]; go_simp; rfl) | (rw [if_pos (by omega)]; go_simp; rfl) | skip
              · have hcA := Ext.cell_some hxw hcA
                have hcA' := Ext.cell_some hxw hcA'
                have hcB := Ext.cell_some hxw hcB
                have hcB' := Ext.cell_some hxw hcB'
                have hsp := Ext.cell_some hxw hsp
                clear hj
                go_simp
                try go_bits
                first | rfl | (rw [if_pos (by omega), if_pos (by omega)]; go_simp; rfl) | (rw [if_pos (by omega)]; go_simp; rfl) | skip
              · have hcA := Ext.cell_some hxw hcA
                have hcA' := Ext.cell_some hxw hcA'
                have hcB := Ext.cell_some hxw hcB
                have hcB' := Ext.cell_some hxw hcB'
                have hsp := Ext.cell_some hxw hsp
                clear hj
                go_simp
                try go_bits
                rw [if_neg (by omega)]
                go_simp
                rfl
              · have hcA := Ext.cell_some hxw hcA
                have hcA' := Ext.cell_some hxw hcA'
                have hcB := Ext.cell_some hxw hcB
                have hcB' := Ext.cell_some hxw hcB'
                have hsp := Ext.cell_some hxw hsp
                clear hj
                go_simp
                try go_bits
                first | rfl | (rw [if_pos (by omega), if_pos (by omega)]; go_simp; rfl) | (rw [if_pos (by omega)]; go_simp; rfl) | skip
              · have hcA := Ext.cell_some hxw hcA
                have hcA' := Ext.cell_some hxw hcA'
                have hcB := Ext.cell_some hxw hcB
                have hcB' := Ext.cell_some hxw hcB'
                have hsp := Ext.cell_some hxw hsp
                clear hj
                go_simp
                try go_bits
                first | rfl | (rw [if_pos (by omega), if_pos (by omega)]; go_simp; rfl) | (rw [if_pos (by omega)]; go_simp; rfl) | skip
              · have hcA := Ext.cell_some hxw hcA
                have hcA' := Ext.cell_some hxw hcA'
                have hcB := Ext.cell_some hxw hcB
                have hcB' := Ext.cell_some hxw hcB'
                have hsp := Ext.cell_some hxw hsp
                clear hj
                go_simp
                try go_bits
                first | rfl | (rw [if_pos (by omega), if_pos (by omega)]; go_simp; rfl) | (rw [if_pos (by omega)]; go_simp; rfl) | skip
              · have hcA := Ext.cell_some hxw hcA
                have hcA' := Ext.cell_some hxw hcA'
                have hcB := Ext.cell_some hxw hcB
                have hcB' := Ext.cell_some hxw hcB'
                have hsp := Ext.cell_some hxw hsp
                clear hj
                go_simp
                try go_bits
                first | rfl | (rw [if_pos (by omega), if_pos (by omega)]; go_simp; rfl) | (rw [if_pos (by omega)]; go_simp; rfl) | skip
              · have hcA := Ext.cell_some hxw hcA
                have hcA' := Ext.cell_some hxw hcA'
                have hcB := Ext.cell_some hxw hcB
                have hcB' := Ext.cell_some hxw hcB'
                have hsp := Ext.cell_some hxw hsp
                clear hj
                go_simp
                try go_bits
                rw [if_neg (by omega)]
                go_simp
                rfl
              · have hcA := Ext.cell_some hxw hcA
                have hcA' := Ext.cell_some hxw hcA'
                have hcB := Ext.cell_some hxw hcB
                have hcB' := Ext.cell_some hxw hcB'
                have hsp := Ext.cell_some hxw hsp
                clear hj
                go_simp
                try go_bits
                first | rfl | (rw [if_pos (by omega), if_pos (by omega)]; go_simp; rfl) | (rw [if_pos (by omega)]; go_simp; rfl) | skip
              · have hcA := Ext.cell_some hxw hcA
                have hcA' := Ext.cell_some hxw hcA'
                have hcB := Ext.cell_some hxw hcB
                have hcB' := Ext.cell_some hxw hcB'
                have hsp := Ext.cell_some hxw hsp
                clear hj
                go_simp
                try go_bits
                first | rfl | (rw [if_pos (by omega), if_pos (by omega)]; go_simp; rfl) | (rw [if_pos (by omega)]; go_simp; rfl) | skip
              · have hcA := Ext.cell_some hxw hcA
                have hcA' := Ext.cell_some hxw hcA'
                have hcB := Ext.cell_some hxw hcB
                have hcB' := Ext.cell_some hxw hcB'
                have hsp := Ext.cell_some hxw hsp
                clear hj
                go_simp
                try go_bits
                first | rfl | (rw [if_pos (by omega), if_pos (by omega)]; go_simp; rfl) | (rw [if_pos (by omega)]; go_simp; rfl) | skip
              · have hcA := Ext.cell_some hxw hcA
                have hcA' := Ext.cell_some hxw hcA'
                have hcB := Ext.cell_some hxw hcB
                have hcB' := Ext.cell_some hxw hcB'
                have hsp := Ext.cell_some hxw hsp
                clear hj
                go_simp
                try go_bits
                first | rfl | (rw [if_pos (by omega), if_pos (by omega)]; go_simp; rfl) | (rw [if_pos (by omega)]; go_simp; rfl) | skip
              · have hcA := Ext.cell_some hxw hcA
                have hcA' := Ext.cell_some hxw hcA'
                have hcB := Ext.cell_some hxw hcB
                have hcB' := Ext.cell_some hxw hcB'
                have hsp := Ext.cell_some hxw hsp
                clear hj
                go_simp
                try go_bits
                first | rfl | (rw [if_pos (by omega), if_pos (by omega)]; go_simp; rfl) | (rw [if_pos (by omega)]; go_simp; rfl) | skip
              · have hcA := Ext.cell_some hxw hcA
                have hcA' := Ext.cell_some hxw hcA'
                have hcB := Ext.cell_some hxw hcB
                have hcB' := Ext.cell_some hxw hcB'
                have hsp := Ext.cell_some hxw hsp
                clear hj
                go_simp
                try go_bits
                rw [if_neg (by omega), HQ.out.1]
                go_simp
                rfl
              · have hcA := Ext.cell_some hxw hcA
                have hcA' := Ext.cell_some hxw hcA'
                have hcB := Ext.cell_some hxw hcB
                have hcB' := Ext.cell_some hxw hcB'
                have hsp := Ext.cell_some hxw hsp
                clear hj
                go_simp
                try go_bits
                first | rfl | (rw [if_pos (by omega), if_pos (by omega)]; go_simp; rfl) | (rw [if_pos (by omega)]; go_simp; rfl) | skip
              · have hcA := Ext.cell_some hxw hcA
                have hcA' := Ext.cell_some hxw hcA'
                have hcB := Ext.cell_some hxw hcB
                have hcB' := Ext.cell_some hxw hcB'
                have hsp := Ext.cell_some hxw hsp
                clear hj
                go_simp
                try go_bits
                first | rfl | (rw [if_pos (by omega), if_pos (by omega)]; go_simp; rfl) | (rw [if_pos (by omega)]; go_simp; rfl) | skip
              · have hcA := Ext.cell_some hxw hcA
                have hcA' := Ext.cell_some hxw hcA'
                have hcB := Ext.cell_some hxw hcB
                have hcB' := Ext.cell_some hxw hcB'
                have hsp := Ext.cell_some hxw hsp
                clear hj
                go_simp
                try go_bits
                first | rfl | (rw [if_pos (by omega), if_pos (by omega)]; go_simp; rfl) | (rw [if_pos (by omega)]; go_simp; rfl) | skip
              · have hcA := Ext.cell_some hxw hcA
                have hcA' := Ext.cell_some hxw hcA'
                have hcB := Ext.cell_some hxw hcB
                have hcB' := Ext.cell_some hxw hcB'
                have hsp := Ext.cell_some hxw hsp
                clear hj
                go_simp
                try go_bits
                first | rfl | (rw [if_pos (by omega), if_pos (by omega)]; go_simp; rfl) | (rw [if_pos (by omega)]; go_simp; rfl) | skip
              · have hcA := Ext.cell_some hxw hcA
                have hcA' := Ext.cell_some hxw hcA'
                have hcB := Ext.cell_some hxw hcB
                have hcB' := Ext.cell_some hxw hcB'
                have hsp := Ext.cell_some hxw hsp
                clear hj
                go_simp
                try go_bits
                rw [if_neg (by omega), HQ.out.2]
                go_simp
                rfl
              · have hcA := Ext.cell_some hxw hcA
                have hcA' := Ext.cell_some hxw hcA'
                have hcB := Ext.cell_some hxw hcB
                have hcB' := Ext.cell_some hxw hcB'
                have hsp := Ext.cell_some hxw hsp
                clear hj
                go_simp
                try go_bits
                first | rfl | (rw [if_pos (by omega), if_pos (by omega)]; go_simp; rfl) | (rw [if_pos (by omega)]; go_simp; rfl) | skip
              · have hcA := Ext.cell_some hxw hcA
                have hcA' := Ext.cell_some hxw hcA'
                have hcB := Ext.cell_some hxw hcB
                have hcB' := Ext.cell_some hxw hcB'
                have hsp := Ext.cell_some hxw hsp
                clear hj
                go_simp
                try go_bits
                first | rfl | (rw [if_pos (by omega), if_pos (by omega)]; go_simp; rfl) | (rw [if_pos (by omega)]; go_simp; rfl) | skip
              · have hcA := Ext.cell_some hxw hcA
                have hcA' := Ext.cell_some hxw hcA'
                have hcB := Ext.cell_some hxw hcB
                have hcB' := Ext.cell_some hxw hcB'
                have hsp := Ext.cell_some hxw hsp
                clear hj
                go_simp
                try go_bits
                first | rfl | (rw [if_pos (by omega), if_pos (by omega)]; go_simp; rfl) | (rw [if_pos (by omega)]; go_simp; rfl) | skip
              · have hcA := Ext.cell_some hxw hcA
                have hcA' := Ext.cell_some hxw hcA'
                have hcB := Ext.cell_some hxw hcB
                have hcB' := Ext.cell_some hxw hcB'
                have hsp := Ext.cell_some hxw hsp
                clear hj
                go_simp
                try go_bits
                first | rfl | (rw [if_pos (by omega), if_pos (by omega)]; go_simp; rfl) | (rw [if_pos (by omega)]; go_simp; rfl) | skip
            case' hx8_1_p =>
              intro vs w8 hx8 hk
              clear hk
              replace hcA := Ext.cell_some hx8 hcA
              replace hcA' := Ext.cell_some hx8 hcA'
              replace hcB := Ext.cell_some hx8 hcB
              replace hcB' := Ext.cell_some hx8 hcB'
              replace hsp := Ext.cell_some hx8 hsp
              replace hx := Ext.trans hx hx8
              go_simp
              have ht8 := HT.out.1.ext hx8
              have hc8 := ht8.at p r HT.out.2.1 (by rw [tabF_row_length hltp]; exact hltr)
              have hf8 := ht8.frozen p r HT.out.2.1
              have hs8 := ht8.set p r HT.out.2.1 (x * y)
              rw [← HT.out.2.2, fill_set hltp, HT.out.2.2] at hs8
              have hx9 := hx.setCell (p := ⟨gs p, r, none⟩) (ht8.rowlt p HT.out.2.1).1 (.int .i64 (x * y))
              have H8 := Lib.hid (And.intro hs8 hx9)
              clear ht8 hs8 hx9 hx8 hx
              go_wp2
              go_roundw
              case rel => exact ⟨r + 1, by omega, by go_num, H8.out.1, H8.out.2⟩
              case measure => simp [intOf]; omega
          · have hrn : r = N := by omega
            rw [hrn, fill_row (d := 0) (fun q _ _ => by omega) (fun q h => by omega)] at ht
            subst hrn
            go_wp2
            go_roundw
            case rel => exact ⟨p + 1, by omega, by go_num, ht, hx⟩
            case measure => simp [intOf]; omega
      · have hpn : p = N := by omega
        rw [hpn, fill_all (Nat.le_refl _), ← HN.out.2.2.2.2.2.1] at ht
        subst hpn
        have hck := spec_IsMatrix_any _ _ _ (ht.reads HN.out.2.2.2.2.1.symm)
        have HR := Lib.hid (And.intro hck (ht.reads HN.out.2.2.2.2.1.symm))
        clear ht hck
        cases hmp : isMat (pairM a b) with
        | true =>
          have HO := Lib.hid (And.intro (HN.out.2.2.1 hmp) hmp)
          clear hmp
          go_wp2_with fail
          with_reducible refine HR.out.1.mono ?_
          rintro e w' ⟨rfl, rfl⟩
          rw [HO.out.2]
          go_wp2
          go_ret2
          exact ⟨_, by rw [HO.out.1]; rfl, by rw [HO.out.1]; exact HR.out.2, hx⟩
        | false =>
          have HO := Lib.hid (And.intro (HN.out.2.2.2.1 hmp) hmp)
          clear hmp
          go_wp2_with fail
          with_reducible refine HR.out.1.mono ?_
          rintro e w' ⟨rfl, rfl⟩
          rw [HO.out.2]
          go_wp2
          go_ret2
          exact ⟨_, by rw [HO.out.1]; rfl, by rw [HO.out.1]; exact spec_nil_rows _, Ext.trans hx (Ext.alloc _ _)⟩
end Go.Proofs.Ytihidaeecfbngaa

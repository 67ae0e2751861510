/- Contracts: the graph of pairs, by the program. -/
import Derived.Test.YtihidaeecfbngaaJoinB
import Derived.Test.YtihidaeecfbngaaPairMath
namespace Go.Proofs.Ytihidaeecfbngaa
open Go.RowKit Go.Mx

set_option maxRecDepth 100000 in
set_option maxHeartbeats 4000000 in
theorem impl_PairGraph_any (v v' : Value) (a b : List (List Int)) (w : World) (h : ReadsRows w v a) (h' : ReadsRows w v' b) :
    Calls Try.prog 44 #[v, v'] w fun e w' => ∃ u, e = .returned (.tuple #[u, .bool (pairO a b).isSome]) ∧ ResM w' w.heap.size u ((pairO a b).getD []) ∧ Ext w w' := by
  have ha := impl_IsMatrix_any v a w h
  have hb := impl_IsMatrix_any v' b w h'
  cases hma : isMat a with
  | false =>
    rw [hma] at ha
    have HI := Lib.hid (And.intro ha (pairO_no (a := a) (b := b) (by rw [hma]; rfl)))
    clear ha hb hma
    go_enter Try.func44, Try.ntmps44
    go_wp2_with (go_at_call 71; with_reducible refine HI.out.1.mono ?_; rintro e w' ⟨rfl, rfl⟩)
    go_ret2
    exact ⟨_, by rw [HI.out.2]; rfl, by rw [HI.out.2]; exact .inl ⟨rfl, rfl⟩, Ext.refl _⟩
  | true => cases hmb : isMat b with
  | false =>
    rw [hma] at ha
    rw [hmb] at hb
    have HI := Lib.hid (And.intro ha (And.intro hb (pairO_no (a := a) (b := b) (by rw [hmb]; simp))))
    clear ha hb hma hmb
    go_enter Try.func44, Try.ntmps44
    go_wp2_with (first | (go_at_call 71; with_reducible refine HI.out.1.mono ?_; rintro e w' ⟨rfl, rfl⟩) | (go_at_call 71; with_reducible refine HI.out.2.1.mono ?_; rintro e w' ⟨rfl, rfl⟩))
    go_ret2
    exact ⟨_, by rw [HI.out.2.2]; rfl, by rw [HI.out.2.2]; exact .inl ⟨rfl, rfl⟩, Ext.refl _⟩
  | true =>
    rw [hma] at ha
    rw [hmb] at hb
    have hMa := isMat_yes hma
    have hMb := isMat_yes hmb
    have hpo := pairO_yes (a := a) (b := b) (by rw [hma, hmb]; rfl)
    have hpn := pairO_bad (a := a) (b := b)
    obtain ⟨pa, ca, rfl⟩ := h.slice
    obtain ⟨pb, cb, rfl⟩ := h'.slice
    obtain ⟨-, hla1, hla2⟩ := h.len
    obtain ⟨-, hlb1, hlb2⟩ := h'.len
    have hFat := fun i j k l (hk : k < b.length) (hl : l < b.length) => pairF_at (a := a) (b := b) (i := i) (j := j) hk hl
    have hpl := pairM_length a b
    have hpM : pairM a b = tabF (a.length * b.length) (a.length * b.length) (pairF a b) := rfl
    obtain ⟨na, hna⟩ : ∃ n, n = a.length := ⟨_, rfl⟩
    obtain ⟨nb, hnb⟩ : ∃ n, n = b.length := ⟨_, rfl⟩
    have hpa := hMa.pos
    have hpb := hMb.pos
    have h9a := hMa.le
    have h9b := hMb.le
    rw [← hna] at hMa hpl hpM hpa h9a h ha hla1 ⊢
    rw [← hnb] at hMb hFat hpl hpM hpb h9b h' hb hlb1 ⊢
    obtain ⟨F, hF⟩ : ∃ J, J = pairF a b := ⟨_, rfl⟩
    rw [← hF] at hFat hpM
    obtain ⟨N, hN⟩ : ∃ N, N = na * nb := ⟨_, rfl⟩
    have hNi : (na : Int) * (nb : Int) = (N : Int) := by rw [hN]; exact (Int.natCast_mul na nb).symm
    rw [← hN] at hpl hpM
    have hN81 : N ≤ 81 := by rw [hN]; exact Nat.mul_le_mul h9a h9b
    have hz := impl_zeros_any N w (by omega)
    rw [← pair_zero (N := N) (n := nb) (F := F)] at hz
    have HM := Lib.hid (And.intro h (And.intro h' (And.intro hMa (And.intro hMb (And.intro ha (And.intro hb hz))))))
    have HF := Lib.hid hFat
    have HN := Lib.hid (And.intro hna (And.intro hnb (And.intro hpo (And.intro hpn (And.intro hpl (And.intro hpM hN))))))
    clear ha hb hma hmb hFat hpo hpn hpl hpM hz hF hna hnb hN h h' hMa hMb
    go_enter Try.func44, Try.ntmps44
    go_wp2_with (first | (go_at_call 71; with_reducible refine HM.out.2.2.2.2.1.mono ?_; rintro e w' ⟨rfl, rfl⟩) | (go_at_call 71; with_reducible refine HM.out.2.2.2.2.2.1.mono ?_; rintro e w' ⟨rfl, rfl⟩) | (go_at_call 78; with_reducible refine HM.out.2.2.2.2.2.2.mono ?_; rintro e w1 ⟨g, cap, gs, cs, rfl, ht, hx⟩))
    go_loopw [33] (fun i wr => ∃ k : Nat, k ≤ na ∧ i = .int .i64 k ∧ MTab wr w.heap.size 22 3 g N cap gs cs (tabF N N (maskF (pairD nb k 0 0 0) F)) ∧ Ext w wr) (fun i _ => na - (intOf i).toNat)
    case atStart => exact ⟨0, by omega, rfl, ht, hx⟩
    case round =>
      clear ht hx
      obtain ⟨i, hi, rfl, ht, hx⟩ := hrel
      by_cases hlti : i < na
      · obtain ⟨bk, o, a', c', rfl, hcell, hrow⟩ := HM.out.1.at i (by rw [← HN.out.1]; exact hlti)
        obtain ⟨b', o', rfl, -⟩ := hrow.at 0 (by rw [HM.out.2.2.1.row i hlti]; omega)
        rw [HM.out.2.2.1.row i hlti] at hcell hrow
        have hlc := hrow.len.2.1
        have hcell := hx.cell_some hcell
        have HR := Lib.hid hrow
        clear hrow
        go_wp2
        clear hcell
        go_loopw [40] (fun q wr => ∃ k : Nat, k ≤ na ∧ q = .int .i64 k ∧ MTab wr w.heap.size 22 3 g N cap gs cs (tabF N N (maskF (pairD nb i k 0 0) F)) ∧ Ext w wr) (fun q _ => na - (intOf q).toNat)
        case atStart => exact ⟨0, by omega, rfl, ht, hx⟩
        case round =>
          clear ht hx
          obtain ⟨j, hj, rfl, ht, hx⟩ := hrel
          by_cases hltj : j < na
          · obtain ⟨_, _, e, hcell⟩ := (HR.out.ext hx).at j (by rw [HM.out.2.2.1.row i hlti]; exact hltj)
            cases e
            have hxb := HM.out.2.2.1.at2_bd i j
            unfold at2 at hxb
            obtain ⟨x, hxx⟩ : ∃ x, x = (a.getD i []).getD j 0 := ⟨_, rfl⟩
            rw [← hxx] at hcell hxb
            obtain ⟨hx1, hx2⟩ := hxb
            have HX := Lib.hid hxx
            clear hxx
            go_wp2
            clear hcell
            go_loopw [47] (fun q wr => ∃ k : Nat, k ≤ nb ∧ q = .int .i64 k ∧ MTab wr w.heap.size 22 3 g N cap gs cs (tabF N N (maskF (pairD nb i j k 0) F)) ∧ Ext w wr) (fun q _ => nb - (intOf q).toNat)
            case atStart => exact ⟨0, by omega, rfl, ht, hx⟩
            case round =>
              clear ht hx
              obtain ⟨k, hk, rfl, ht, hx⟩ := hrel
              by_cases hltk : k < nb
              · obtain ⟨bk', o2, a2, c2, rfl, hcell, hrow⟩ := HM.out.2.1.at k (by rw [← HN.out.2.1]; exact hltk)
                obtain ⟨b2, o2', rfl, -⟩ := hrow.at 0 (by rw [HM.out.2.2.2.1.row k hltk]; omega)
                rw [HM.out.2.2.2.1.row k hltk] at hcell hrow
                have hlc2 := hrow.len.2.1
                have hcell := hx.cell_some hcell
                have HS := Lib.hid hrow
                clear hrow
                go_wp2
                clear hcell
                go_loopw [54] (fun q wr => ∃ l : Nat, l ≤ nb ∧ q = .int .i64 l ∧ MTab wr w.heap.size 22 3 g N cap gs cs (tabF N N (maskF (pairD nb i j k l) F)) ∧ Ext w wr) (fun q _ => nb - (intOf q).toNat)
                case atStart => exact ⟨0, by omega, rfl, ht, hx⟩
                case round =>
                  clear ht hx
                  obtain ⟨l, hl, rfl, ht, hx⟩ := hrel
                  by_cases hltl : l < nb
                  · obtain ⟨_, _, e, hcell⟩ := (HS.out.ext hx).at l (by rw [HM.out.2.2.2.1.row k hltk]; exact hltl)
                    cases e
                    have hyb := HM.out.2.2.2.1.at2_bd k l
                    have hval := HF.out i j k l hltk hltl
                    unfold at2 at hyb hval
                    obtain ⟨y, hyy⟩ : ∃ y, y = (b.getD k []).getD l 0 := ⟨_, rfl⟩
                    rw [← hyy] at hcell hyb hval
                    rw [← HX.out] at hval
                    have hxy := mul_bd (x := x) (y := y) (a := 1000000) (b := 1000000) (by omega) hx2 (by omega) hyb.2
                    obtain ⟨hxy1, hxy2⟩ := hxy
                    obtain ⟨u, hu⟩ : ∃ u, u = i * nb := ⟨_, rfl⟩
                    obtain ⟨u', hu'⟩ : ∃ u, u = j * nb := ⟨_, rfl⟩
                    have hui : (i : Int) * (nb : Int) = (u : Int) := by rw [hu]; exact (Int.natCast_mul i nb).symm
                    have hui' : (j : Int) * (nb : Int) = (u' : Int) := by rw [hu']; exact (Int.natCast_mul j nb).symm
                    have hp1 := pair_lt (n := nb) hlti hltk
                    have hp2 := pair_lt (n := nb) hltj hltl
                    have hset := pair_set (N := N) (F := F) (j := j) (l := l) HN.out.2.2.2.2.2.2 hlti hltk hltl
                    rw [← HN.out.2.2.2.2.2.2] at hp1 hp2
                    rw [← hu] at hp1 hval hset
                    rw [← hu'] at hp2 hval hset
                    obtain ⟨p, hp⟩ : ∃ p, p = u + k := ⟨_, rfl⟩
                    obtain ⟨r, hr⟩ : ∃ r, r = u' + l := ⟨_, rfl⟩
                    have hpe : (u : Int) + (k : Int) = (p : Int) := by omega
                    have hre : (u' : Int) + (l : Int) = (r : Int) := by omega
                    have hu81 : u ≤ 81 := by omega
                    have hu81' : u' ≤ 81 := by omega
                    rw [← hp] at hp1 hval hset
                    rw [← hr] at hp2 hval hset
                    have hkR : p < (tabF N N (maskF (pairD nb i j k l) F)).length := by rw [tabF_length]; exact hp1
                    have hsp := ht.spot p hkR
                    have hcp := (ht.row p hkR).caps.1
                    have hat := ht.at p r hkR (by rw [tabF_row_length hp1]; exact hp2)
                    have hfz := ht.frozen p r hkR
                    have hst := ht.set p r hkR (x * y)
                    rw [← hval, hset, hval] at hst
                    rw [tabF_row_length hp1] at hsp hcp
                    have hx9 := hx.setCell (p := ⟨gs p, r, none⟩) (ht.rowlt p hkR).1 (.int .i64 (x * y))
                    have H8 := Lib.hid (And.intro hst hx9)
                    clear hst hx9 ht hx hp hr hu hu' hval hset hkR hyy hyb
                    go_wp2
                    go_roundw
                    case rel => exact ⟨l + 1, by omega, by go_num, H8.out.1, H8.out.2⟩
                    case measure => simp [intOf]; omega
                  · have hln : l = nb := by omega
                    rw [hln, pair_l (by omega)] at ht
                    subst hln
                    go_wp2
                    go_roundw
                    case rel => exact ⟨k + 1, by omega, by go_num, ht, hx⟩
                    case measure => simp [intOf]; omega
              · have hkn : k = nb := by omega
                rw [hkn, pair_k (by omega)] at ht
                subst hkn
                go_wp2
                go_roundw
                case rel => exact ⟨j + 1, by omega, by go_num, ht, hx⟩
                case measure => simp [intOf]; omega
          · have hjn : j = na := by omega
            rw [hjn, pair_j HN.out.2.2.2.2.2.2 (by omega)] at ht
            subst hjn
            go_wp2
            go_roundw
            case rel => exact ⟨i + 1, by omega, by go_num, ht, hx⟩
            case measure => simp [intOf]; omega
      · have hin : i = na := by omega
        rw [hin, pair_all HN.out.2.2.2.2.2.2 (by omega), ← HN.out.2.2.2.2.2.1] at ht
        subst hin
        have hres : ResM wr w.heap.size (.slice (some ⟨g, 0, none⟩) N cap) (pairM a b) := .inr ⟨g, cap, gs, cs, by rw [HN.out.2.2.2.2.1], by rw [HN.out.2.2.2.2.1]; exact ht⟩
        have hck := impl_checked_any _ _ _ hres.reads
        have HC := Lib.hid (And.intro hck hres)
        clear ht hck hres
        cases hmp : isMat (pairM a b) with
        | true =>
          have HO := Lib.hid (And.intro (HN.out.2.2.1 hmp) hmp)
          clear hmp
          go_wp2_with fail
          with_reducible refine HC.out.1.mono ?_
          rintro e w' ⟨rfl, rfl⟩
          rw [HO.out.2]
          go_wp2
          go_ret2
          exact ⟨_, by rw [HO.out.1]; rfl, by rw [HO.out.1]; exact HC.out.2, hx⟩
        | false =>
          have HO := Lib.hid (And.intro (HN.out.2.2.2.1 hmp) hmp)
          clear hmp
          go_wp2_with fail
          with_reducible refine HC.out.1.mono ?_
          rintro e w' ⟨rfl, rfl⟩
          rw [HO.out.2]
          go_wp2
          go_ret2
          exact ⟨_, by rw [HO.out.1]; rfl, by rw [HO.out.1]; exact .inl ⟨rfl, rfl⟩, hx⟩
end Go.Proofs.Ytihidaeecfbngaa

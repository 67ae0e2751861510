/- Contracts: the graph of a shift, by the program and by the reference. -/
import Derived.Test.YtfiembmfkokllaaGreatShI
import Derived.Test.YtfiembmfkokllaaGreatPkC
namespace Go.Proofs.YtfiembmfkokllaaGreat
open Go.RowKit Go.Cm Go.Mx

def gF (F st : List (List UInt8)) (i j : Nat) : Int := if adjL F (st.getD i []) (st.getD j []) = true then 1 else 0
theorem gF_yes {F st : List (List UInt8)} {i j : Nat} (h : adjL F (st.getD i []) (st.getD j []) = true) : gF F st i j = 1 := if_pos h
theorem gF_no {F st : List (List UInt8)} {i j : Nat} (h : adjL F (st.getD i []) (st.getD j []) = false) : gF F st i j = 0 := if_neg (by rw [h]; simp)
/-- the graph of a shift -/
def graphT (F st : List (List UInt8)) : List (List Int) := tabF st.length st.length (gF F st)
def graphO (L : Int) (F : List (List UInt8)) : Option (List (List Int)) := if (langOf L F 2).length = 0 then none else some (graphT F (langOf L F 2))
theorem fill_skip2 {R C : Nat} {F : Nat → Nat → Int} {i j : Nat} (h : F i j = 0) : tabF R C (maskF (doneB i j) F) = tabF R C (maskF (doneB i (j + 1)) F) := by
  apply mask_same
  intro p q _ _
  by_cases e : p = i ∧ q = j
  · obtain ⟨rfl, rfl⟩ := e; exact .inr h
  · left; rw [Bool.eq_iff_iff]; simp [doneB]; omega
theorem lang2_ok {L : Int} {F : List (List UInt8)} (h : ¬ (langOf L F 2).length = 0) : ∃ K : Nat, L = K ∧ ShFit K F ∧ langOf L F 2 = languageL K F 2 := by
  have h1 : shiftOk L F = true := by
    cases hs : shiftOk L F with
    | true => rfl
    | false => rw [langOf_no (.inl hs)] at h; simp at h
  obtain ⟨K, rfl, hf⟩ := ShFit.of h1
  exact ⟨K, rfl, hf, langOf_yes (n := 2) hf (by omega)⟩
theorem lang2_facts {L : Int} {F : List (List UInt8)} (h : ¬ (langOf L F 2).length = 0) : (langOf L F 2).length ≤ 9 ∧ (∀ u ∈ langOf L F 2, u.length = 2) ∧ ∀ f ∈ F, f.length ≤ 1048576 := by
  obtain ⟨K, rfl, hf, e⟩ := lang2_ok h
  rw [e]
  have h2 : K ^ 2 ≤ 3 ^ 2 := Nat.pow_le_pow_left hf.k3 2
  have h3 := languageL_length K 2 F
  exact ⟨by omega, fun u hu => wordsL_len (List.mem_filter.1 hu).1, fun f hm => by have := (hf.word f hm).2.2; omega⟩

set_option maxRecDepth 100000 in
set_option maxHeartbeats 4000000 in
theorem impl_GraphOf_any (L : Int) (v : Value) (F : List (List UInt8)) (w : World) (h : ReadsW w v F) (hm : MaxC w) (hF : ∀ f ∈ F, f.length ≤ maxLen) :
    Calls Tryz.prog 7 #[.agg #[.int .i64 L, v]] w fun e w' => ∃ u, e = .returned (.tuple #[u, .bool (graphO L F).isSome]) ∧ ResM w' w.heap.size u ((graphO L F).getD []) ∧ Ext w w' := by
  obtain ⟨pa, ca, rfl⟩ := h.slice
  have hx := Ext.alloc w (.cells #[.int .i64 L, .slice pa F.length ca] 26)
  have bo : Blk (w.alloc (.cells #[.int .i64 L, .slice pa F.length ca] 26)) w.heap.size #[.int .i64 L, .slice pa F.length ca] := by (repeat (first | (refine Blk.mk' ?_; (simp; done)) | apply Blk.old))
  have HS := Lib.hid (And.intro h (And.intro hm hF))
  have hst := impl_StatesOf_any L (.slice pa F.length ca) F _ (h.ext hx) (hm.ext hx) hF
  have hno : (langOf L F 2).length = 0 → graphO L F = none := fun h => by unfold graphO; rw [if_pos h]
  have hyes : ¬ (langOf L F 2).length = 0 → graphO L F = some (graphT F (langOf L F 2)) := fun h => by unfold graphO; rw [if_neg h]
  have hfacts := fun h => lang2_facts (L := L) (F := F) h
  obtain ⟨st, hstd⟩ : ∃ st, st = langOf L F 2 := ⟨_, rfl⟩
  rw [← hstd] at hst hno hyes hfacts
  have HA := Lib.hid (And.intro hst (And.intro hno (And.intro hyes hfacts)))
  clear h hm hF hst hno hyes hfacts hstd
  go_enter Tryz.func7, Tryz.ntmps7
  go_wp2_with fail
  with_reducible refine HA.out.1.mono ?_
  rintro e w1 ⟨u, rfl, hown, hx1⟩
  have bo1 := bo.ext hx1
  replace hx := hx.trans hx1
  have hrd := Own.readsW hown
  clear bo hx1 hown
  obtain ⟨pz, cz, rfl⟩ := hrd.slice
  obtain ⟨-, hlz, hcz⟩ := hrd.len
  have hno := HA.out.2.1
  have hyes := HA.out.2.2.1
  have hfacts := HA.out.2.2.2
  have hgl : (graphT F st).length = st.length := tabF_length _ _ _
  obtain ⟨n, hn⟩ : ∃ n, n = st.length := ⟨_, rfl⟩
  have hgt : graphT F st = tabF n n (gF F st) := by rw [hn]; rfl
  rw [← hn] at hrd hlz hno hyes hfacts ⊢
  by_cases hn0 : n = 0
  · have HN := Lib.hid (hno hn0)
    subst hn0
    clear hno hyes hfacts hrd hn hgl hgt
    go_wp2
    go_ret2
    exact ⟨_, by rw [HN.out]; rfl, by rw [HN.out]; exact .inl ⟨rfl, rfl⟩, hx⟩
  obtain ⟨hn9, htwo, hFl⟩ := hfacts hn0
  have hn0b : ((n : Int) == 0) = false := by simp; omega
  have hz := impl_zeros_any n w1 (by omega)
  have hz0 : tabF n n (fun _ _ => 0) = tabF n n (maskF (doneB 0 0) (gF F st)) := (fill_zero (fun _ _ h _ => by omega) (fun _ h => by omega)).symm
  rw [hz0] at hz
  have hgy := fun i j h => gF_yes (F := F) (st := st) (i := i) (j := j) h
  have hgn := fun i j h => gF_no (F := F) (st := st) (i := i) (j := j) h
  have hyes' := hyes hn0
  rw [hgt] at hyes'
  obtain ⟨T, hT⟩ : ∃ T, T = gF F st := ⟨_, rfl⟩
  rw [← hT] at hz hyes' hgy hgn
  have HM := Lib.hid (And.intro hrd (And.intro hn (And.intro hyes' (And.intro htwo (And.intro hz (And.intro hgy hgn))))))
  clear hno hyes hyes' htwo hrd hn hz hz0 hgy hgn hT hfacts hgl hgt hn0
  have c0 := bo1.cell 0 (.int .i64 L) rfl
  have c1 := bo1.cell 1 (.slice pa F.length ca) rfl
  go_wp2_with (go_at_call 35; with_reducible refine HM.out.2.2.2.2.1.mono ?_; rintro e w2 ⟨g, cap, gs, cs, rfl, ht, hx2⟩)
  go_loopw [20] (fun q wr => ∃ k : Nat, k ≤ n ∧ q = .int .i64 k ∧ MTab wr w1.heap.size 52 3 g n cap gs cs (tabF n n (maskF (doneB k 0) T)) ∧ Ext w1 wr) (fun q _ => n - (intOf q).toNat)
  case atStart => exact ⟨0, by omega, rfl, ht, hx2⟩
  case round =>
    clear ht hx2 c0 c1
    obtain ⟨i, hi, rfl, ht, hx1⟩ := hrel
    by_cases hlti : i < n
    · have hin : i < st.length := by rw [← HM.out.2.1]; exact hlti
      obtain ⟨b, o, rfl, hcA0⟩ := HM.out.1.at i hin
      have hul : (st.getD i []).length = 2 := HM.out.2.2.2.1 _ (by rw [List.getD_eq_getElem?_getD, List.getElem?_eq_getElem hin]; exact List.getElem_mem hin)
      obtain ⟨u, hu⟩ : ∃ u, u = st.getD i [] := ⟨_, rfl⟩
      rw [← hu] at hcA0 hul
      have hsu : (mkS u).size = u.length := mkS_size u
      have hu1 : 1 < (mkS u).size := by omega
      have hu2 : u.length ≤ 2 := by omega
      have HU := Lib.hid (And.intro hul (And.intro hu hcA0))
      have hcA := hx1.cell_some hcA0
      have HT := Lib.hid ht
      clear hul hu hcA0 ht hin
      go_wp2
      clear hcA
      go_loopw [27] (fun q wr => ∃ k : Nat, k ≤ n ∧ q = .int .i64 k ∧ MTab wr w1.heap.size 52 3 g n cap gs cs (tabF n n (maskF (doneB i k) T)) ∧ Ext w1 wr) (fun q _ => n - (intOf q).toNat)
      case atStart => exact ⟨0, by omega, rfl, HT.out, hx1⟩
      case round =>
        clear hx1 HT
        obtain ⟨j, hj, rfl, ht, hx1⟩ := hrel
        by_cases hltj : j < n
        · have hjn : j < st.length := by rw [← HM.out.2.1]; exact hltj
          obtain ⟨_, _, e, hcB⟩ := (HM.out.1.ext hx1).at j hjn
          cases e
          have hxl : (st.getD j []).length = 2 := HM.out.2.2.2.1 _ (by rw [List.getD_eq_getElem?_getD, List.getElem?_eq_getElem hjn]; exact List.getElem_mem hjn)
          obtain ⟨x, hx'⟩ : ∃ x, x = st.getD j [] := ⟨_, rfl⟩
          rw [← hx'] at hcB hxl
          have hsx : (mkS x).size = x.length := mkS_size x
          have hx1' : 1 < (mkS x).size := by omega
          have hx0' : 0 < (mkS x).size := by omega
          have hx2 : x.length ≤ 2 := by omega
          have g1 := mkS_get u 1 hu1
          have g2 := mkS_get x 0 hx0'
          obtain ⟨c, hc⟩ : ∃ c, c = (u.getD 1 0 == x.getD 0 0) := ⟨_, rfl⟩
          have hcn : ((((mkS u)[1]'hu1).toNat : Int) == (((mkS x)[0]'hx0').toNat : Int)) = c := by
            rw [hc, g1, g2, let_eq]
          obtain ⟨d, hd⟩ : ∃ d, d = x.drop 1 := ⟨_, rfl⟩
          have hsl1 := mkS_tail x 1
          rw [hsx, ← hd] at hsl1
          have hcat := mkS_append u d
          have hfit : ¬ 9223372036854775807 < u.length + (mkS d).size := by rw [mkS_size, hd, List.length_drop]; omega
          obtain ⟨y, hy⟩ : ∃ y, y = u ++ d := ⟨_, rfl⟩
          have hyl : y.length ≤ 1048576 := by rw [hy, List.length_append, hd, List.length_drop]; omega
          obtain ⟨av, hav⟩ : ∃ av, av = avoidL F y := ⟨_, rfl⟩
          have hca := fun w h hm => impl_avoids_any L (.slice pa F.length ca) F y w h hm hyl
          rw [← hav] at hca
          rw [← hy] at hcat
          have hadj : adjL F (st.getD i []) (st.getD j []) = (c && av) := by
            unfold adjL
            rw [← HU.out.2.1, ← hx', ← hc, hav, hy, hd]
          have hkR : i < (tabF n n (maskF (doneB i j) T)).length := by rw [tabF_length]; exact hlti
          have hsp := ht.spot i hkR
          have hcp := (ht.row i hkR).caps.1
          rw [tabF_row_length hlti] at hsp hcp
          have HX := Lib.hid (And.intro hca (And.intro hadj (And.intro ht hkR)))
          have i1 : (1 : Int) < (u.length : Int) := by omega
          have i2 : 0 < x.length := by omega
          have i3 : (1 : Int) ≤ (x.length : Int) := by omega
          have hxw := hx.trans hx1
          have c0 := (bo1.ext hx1).cell 0 (.int .i64 L) rfl
          have c1 := (bo1.ext hx1).cell 1 (.slice pa F.length ca) rfl
          have HW := Lib.hid (And.intro (HS.out.1.ext hxw) (HS.out.2.1.ext hxw))
          clear hca hadj hav hy hd hc hxl hx' g1 g2 hyl hkR ht hxw hjn
          cases c
          · have HF := Lib.hid (HM.out.2.2.2.2.2.2 i j (by rw [HX.out.2.1]; rfl))
            go_wp2
            refine wp_region_inv (by kernel_rfl) (.known ?hx8_21_v0 :: .known ?hx8_21_v1 :: .known ?hx8_21_v2 :: .known ?hx8_21_v3 :: .known ?hx8_21_v4 :: .known ?hx8_21_v5 :: .known ?hx8_21_v6 :: .known ?hx8_21_v7 :: .known ?hx8_21_v8 :: .known ?hx8_21_v9 :: .known ?hx8_21_v10 :: .known ?hx8_21_v11 :: .known ?hx8_21_v12 :: []) rfl (by kernel_rfl) ?hx8_21_s ?hx8_21_p
            case hx8_21_s =>
              intro vs
              refine ⟨fun w' hxw hj => ?_, fun w' hxw hj => ?_, fun w' hxw hj => ?_, fun w' hxw hj => ?_, fun w' hxw hj => ?_, fun w' hxw hj => ?_, fun w' hxw hj => ?_, fun w' hxw hj => ?_, fun w' hxw hj => ?_, fun w' hxw hj => ?_, fun w' hxw hj => ?_, fun w' hxw hj => ?_, fun w' hxw hj => ?_, trivial⟩
              · have c0 := Ext.cell_some hxw c0
                have c1 := Ext.cell_some hxw c1
                have hcB := Ext.cell_some hxw hcB
                have hsp := Ext.cell_some hxw hsp
                clear hj
                go_simp
                try go_bits
                first | rfl | (rw [if_pos (by omega), if_pos (by omega)]; go_simp; rfl) | (rw [if_pos (by omega)]; go_simp; rfl) | skip
              · have c0 := Ext.cell_some hxw c0
                have c1 := Ext.cell_some hxw c1
                have hcB := Ext.cell_some hxw hcB
                have hsp := Ext.cell_some hxw hsp
                clear hj
                go_simp
                try go_bits
                first | rfl | (rw [if_pos (by omega), if_pos (by omega)]; go_simp; rfl) | (rw [if_pos (by omega)]; go_simp; rfl) | skip
              · have c0 := Ext.cell_some hxw c0
                have c1 := Ext.cell_some hxw c1
                have hcB := Ext.cell_some hxw hcB
                have hsp := Ext.cell_some hxw hsp
                clear hj
                go_simp
                try go_bits
                first | rfl | (rw [if_pos (by omega), if_pos (by omega)]; go_simp; rfl) | (rw [if_pos (by omega)]; go_simp; rfl) | skip
              · have c0 := Ext.cell_some hxw c0
                have c1 := Ext.cell_some hxw c1
                have hcB := Ext.cell_some hxw hcB
                have hsp := Ext.cell_some hxw hsp
                clear hj
                go_simp
                try go_bits
                first | rfl | (rw [if_pos (by omega), if_pos (by omega)]; go_simp; rfl) | (rw [if_pos (by omega)]; go_simp; rfl) | skip
              · have c0 := Ext.cell_some hxw c0
                have c1 := Ext.cell_some hxw c1
                have hcB := Ext.cell_some hxw hcB
                have hsp := Ext.cell_some hxw hsp
                clear hj
                go_simp
                try go_bits
                first | rfl | (rw [if_pos (by omega), if_pos (by omega)]; go_simp; rfl) | (rw [if_pos (by omega)]; go_simp; rfl) | skip
              · have c0 := Ext.cell_some hxw c0
                have c1 := Ext.cell_some hxw c1
                have hcB := Ext.cell_some hxw hcB
                have hsp := Ext.cell_some hxw hsp
                clear hj
                go_simp
                try go_bits
                first | rfl | (rw [if_pos (by omega), if_pos (by omega)]; go_simp; rfl) | (rw [if_pos (by omega)]; go_simp; rfl) | skip
              · have c0 := Ext.cell_some hxw c0
                have c1 := Ext.cell_some hxw c1
                have hcB := Ext.cell_some hxw hcB
                have hsp := Ext.cell_some hxw hsp
                clear hj
                go_simp
                try go_bits
                first | rfl | (rw [if_pos (by omega), if_pos (by omega)]; go_simp; rfl) | (rw [if_pos (by omega)]; go_simp; rfl) | skip
              · have c0 := Ext.cell_some hxw c0
                have c1 := Ext.cell_some hxw c1
                have hcB := Ext.cell_some hxw hcB
                have hsp := Ext.cell_some hxw hsp
                clear hj
                go_simp
                try go_bits
                first | rfl | (rw [if_pos (by omega), if_pos (by omega)]; go_simp; rfl) | (rw [if_pos (by omega)]; go_simp; rfl) | skip
              · have c0 := Ext.cell_some hxw c0
                have c1 := Ext.cell_some hxw c1
                have hcB := Ext.cell_some hxw hcB
                have hsp := Ext.cell_some hxw hsp
                clear hj
                go_simp
                try go_bits
                first | rfl | (rw [if_pos (by omega), if_pos (by omega)]; go_simp; rfl) | (rw [if_pos (by omega)]; go_simp; rfl) | skip
              · have c0 := Ext.cell_some hxw c0
                have c1 := Ext.cell_some hxw c1
                have hcB := Ext.cell_some hxw hcB
                have hsp := Ext.cell_some hxw hsp
                clear hj
                go_simp
                try go_bits
                first | rfl | (rw [if_pos (by omega), if_pos (by omega)]; go_simp; rfl) | (rw [if_pos (by omega)]; go_simp; rfl) | skip
              · have c0 := Ext.cell_some hxw c0
                have c1 := Ext.cell_some hxw c1
                have hcB := Ext.cell_some hxw hcB
                have hsp := Ext.cell_some hxw hsp
                clear hj
                go_simp
                try go_bits
                first | rfl | (rw [if_pos (by omega), if_pos (by omega)]; go_simp; rfl) | (rw [if_pos (by omega)]; go_simp; rfl) | skip
              · have c0 := Ext.cell_some hxw c0
                have c1 := Ext.cell_some hxw c1
                have hcB := Ext.cell_some hxw hcB
                have hsp := Ext.cell_some hxw hsp
                clear hj
                go_simp
                try go_bits
                first | rfl | (rw [if_pos (by omega), if_pos (by omega)]; go_simp; rfl) | (rw [if_pos (by omega)]; go_simp; rfl) | skip
              · have c0 := Ext.cell_some hxw c0
                have c1 := Ext.cell_some hxw c1
                have hcB := Ext.cell_some hxw hcB
                have hsp := Ext.cell_some hxw hsp
                clear hj
                go_simp
                try go_bits
                first | rfl | (rw [if_pos (by omega), if_pos (by omega)]; go_simp; rfl) | (rw [if_pos (by omega)]; go_simp; rfl) | skip
            case' hx8_21_p =>
              intro vs w8 hx8 hk
              clear hk
              replace c0 := Ext.cell_some hx8 c0
              replace c1 := Ext.cell_some hx8 c1
              replace hcB := Ext.cell_some hx8 hcB
              replace hsp := Ext.cell_some hx8 hsp
              replace hx1 := Ext.trans hx1 hx8
              go_simp
              have ht8 := HX.out.2.2.1.ext hx8
              rw [fill_skip2 HF.out] at ht8
              have H8 := Lib.hid ht8
              clear ht8 hx8 c0 c1
              go_wp2
              go_roundw
              case rel => exact ⟨j + 1, by omega, by go_num, H8.out, hx1⟩
              case measure => simp [intOf]; omega
          cases av
          · have HF := Lib.hid (HM.out.2.2.2.2.2.2 i j (by rw [HX.out.2.1]; rfl))
            go_wp2
            refine wp_region_inv (by kernel_rfl) (.known ?hx8_22_v0 :: .known ?hx8_22_v1 :: .known ?hx8_22_v2 :: .known ?hx8_22_v3 :: .known ?hx8_22_v4 :: .known ?hx8_22_v5 :: .known ?hx8_22_v6 :: .known ?hx8_22_v7 :: .known ?hx8_22_v8 :: .known ?hx8_22_v9 :: .known ?hx8_22_v10 :: .known (.bool false) :: .known ?hx8_22_v12 :: []) rfl (by kernel_rfl) ?hx8_22_s ?hx8_22_p
            case hx8_22_s =>
              intro vs
              refine ⟨fun w' hxw hj => ?_, fun w' hxw hj => ?_, fun w' hxw hj => ?_, fun w' hxw hj => ?_, fun w' hxw hj => ?_, fun w' hxw hj => ?_, fun w' hxw hj => ?_, fun w' hxw hj => ?_, fun w' hxw hj => ?_, fun w' hxw hj => ?_, fun w' hxw hj => ?_, fun w' hxw hj => ?_, fun w' hxw hj => ?_, trivial⟩
              · have c0 := Ext.cell_some hxw c0
                have c1 := Ext.cell_some hxw c1
                have hcB := Ext.cell_some hxw hcB
                have hsp := Ext.cell_some hxw hsp
                clear hj
                go_simp
                try go_bits
                first | rfl | (rw [if_pos (by omega), if_pos (by omega)]; go_simp; rfl) | (rw [if_pos (by omega)]; go_simp; rfl) | skip
              · have c0 := Ext.cell_some hxw c0
                have c1 := Ext.cell_some hxw c1
                have hcB := Ext.cell_some hxw hcB
                have hsp := Ext.cell_some hxw hsp
                clear hj
                go_simp
                try go_bits
                first | rfl | (rw [if_pos (by omega), if_pos (by omega)]; go_simp; rfl) | (rw [if_pos (by omega)]; go_simp; rfl) | skip
              · have c0 := Ext.cell_some hxw c0
                have c1 := Ext.cell_some hxw c1
                have hcB := Ext.cell_some hxw hcB
                have hsp := Ext.cell_some hxw hsp
                clear hj
                go_simp
                try go_bits
                first | rfl | (rw [if_pos (by omega), if_pos (by omega)]; go_simp; rfl) | (rw [if_pos (by omega)]; go_simp; rfl) | skip
              · have c0 := Ext.cell_some hxw c0
                have c1 := Ext.cell_some hxw c1
                have hcB := Ext.cell_some hxw hcB
                have hsp := Ext.cell_some hxw hsp
                clear hj
                go_simp
                try go_bits
                first | rfl | (rw [if_pos (by omega), if_pos (by omega)]; go_simp; rfl) | (rw [if_pos (by omega)]; go_simp; rfl) | skip
              · have c0 := Ext.cell_some hxw c0
                have c1 := Ext.cell_some hxw c1
                have hcB := Ext.cell_some hxw hcB
                have hsp := Ext.cell_some hxw hsp
                clear hj
                go_simp
                try go_bits
                first | rfl | (rw [if_pos (by omega), if_pos (by omega)]; go_simp; rfl) | (rw [if_pos (by omega)]; go_simp; rfl) | skip
              · have c0 := Ext.cell_some hxw c0
                have c1 := Ext.cell_some hxw c1
                have hcB := Ext.cell_some hxw hcB
                have hsp := Ext.cell_some hxw hsp
                clear hj
                go_simp
                try go_bits
                first | rfl | (rw [if_pos (by omega), if_pos (by omega)]; go_simp; rfl) | (rw [if_pos (by omega)]; go_simp; rfl) | skip
              · have c0 := Ext.cell_some hxw c0
                have c1 := Ext.cell_some hxw c1
                have hcB := Ext.cell_some hxw hcB
                have hsp := Ext.cell_some hxw hsp
                clear hj
                go_simp
                try go_bits
                first | rfl | (rw [if_pos (by omega), if_pos (by omega)]; go_simp; rfl) | (rw [if_pos (by omega)]; go_simp; rfl) | skip
              · have c0 := Ext.cell_some hxw c0
                have c1 := Ext.cell_some hxw c1
                have hcB := Ext.cell_some hxw hcB
                have hsp := Ext.cell_some hxw hsp
                clear hj
                go_simp
                try go_bits
                first | rfl | (rw [if_pos (by omega), if_pos (by omega)]; go_simp; rfl) | (rw [if_pos (by omega)]; go_simp; rfl) | skip
              · have c0 := Ext.cell_some hxw c0
                have c1 := Ext.cell_some hxw c1
                have hcB := Ext.cell_some hxw hcB
                have hsp := Ext.cell_some hxw hsp
                clear hj
                go_simp
                try go_bits
                first | rfl | (rw [if_pos (by omega), if_pos (by omega)]; go_simp; rfl) | (rw [if_pos (by omega)]; go_simp; rfl) | skip
              · have c0 := Ext.cell_some hxw c0
                have c1 := Ext.cell_some hxw c1
                have hcB := Ext.cell_some hxw hcB
                have hsp := Ext.cell_some hxw hsp
                clear hj
                go_simp
                try go_bits
                first | rfl | (rw [if_pos (by omega), if_pos (by omega)]; go_simp; rfl) | (rw [if_pos (by omega)]; go_simp; rfl) | skip
              · have c0 := Ext.cell_some hxw c0
                have c1 := Ext.cell_some hxw c1
                have hcB := Ext.cell_some hxw hcB
                have hsp := Ext.cell_some hxw hsp
                clear hj
                go_simp
                try go_bits
                first | rfl | (rw [if_pos (by omega), if_pos (by omega)]; go_simp; rfl) | (rw [if_pos (by omega)]; go_simp; rfl) | skip
              · have c0 := Ext.cell_some hxw c0
                have c1 := Ext.cell_some hxw c1
                have hcB := Ext.cell_some hxw hcB
                have hsp := Ext.cell_some hxw hsp
                clear hj
                go_simp
                try go_bits
                exact HX.out.1 _ (HW.out.1.ext hxw) (HW.out.2.ext hxw)
              · have c0 := Ext.cell_some hxw c0
                have c1 := Ext.cell_some hxw c1
                have hcB := Ext.cell_some hxw hcB
                have hsp := Ext.cell_some hxw hsp
                clear hj
                go_simp
                try go_bits
                first | rfl | (rw [if_pos (by omega), if_pos (by omega)]; go_simp; rfl) | (rw [if_pos (by omega)]; go_simp; rfl) | skip
            case' hx8_22_p =>
              intro vs w8 hx8 hk
              clear hk
              replace c0 := Ext.cell_some hx8 c0
              replace c1 := Ext.cell_some hx8 c1
              replace hcB := Ext.cell_some hx8 hcB
              replace hsp := Ext.cell_some hx8 hsp
              replace hx1 := Ext.trans hx1 hx8
              go_simp
              have ht8 := HX.out.2.2.1.ext hx8
              rw [fill_skip2 HF.out] at ht8
              have H8 := Lib.hid ht8
              clear ht8 hx8 c0 c1
              go_wp2
              go_roundw
              case rel => exact ⟨j + 1, by omega, by go_num, H8.out, hx1⟩
              case measure => simp [intOf]; omega
          · have HF := Lib.hid (HM.out.2.2.2.2.2.1 i j (by rw [HX.out.2.1]; rfl))
            go_wp2
            refine wp_region_inv (by kernel_rfl) (.known ?hx8_23_v0 :: .known ?hx8_23_v1 :: .known ?hx8_23_v2 :: .known ?hx8_23_v3 :: .known ?hx8_23_v4 :: .known ?hx8_23_v5 :: .known ?hx8_23_v6 :: .known ?hx8_23_v7 :: .known ?hx8_23_v8 :: .known ?hx8_23_v9 :: .known ?hx8_23_v10 :: .known (.bool true) :: .known ?hx8_23_v12 :: []) rfl (by kernel_rfl) ?hx8_23_s ?hx8_23_p
            case hx8_23_s =>
              intro vs
              refine ⟨fun w' hxw hj => ?_, fun w' hxw hj => ?_, fun w' hxw hj => ?_, fun w' hxw hj => ?_, fun w' hxw hj => ?_, fun w' hxw hj => ?_, fun w' hxw hj => ?_, fun w' hxw hj => ?_, fun w' hxw hj => ?_, fun w' hxw hj => ?_, fun w' hxw hj => ?_, fun w' hxw hj => ?_, fun w' hxw hj => ?_, trivial⟩
              · have c0 := Ext.cell_some hxw c0
                have c1 := Ext.cell_some hxw c1
                have hcB := Ext.cell_some hxw hcB
                have hsp := Ext.cell_some hxw hsp
                clear hj
                go_simp
                try go_bits
                first | rfl | (rw [if_pos (by omega), if_pos (by omega)]; go_simp; rfl) | (rw [if_pos (by omega)]; go_simp; rfl) | skip
              · have c0 := Ext.cell_some hxw c0
                have c1 := Ext.cell_some hxw c1
                have hcB := Ext.cell_some hxw hcB
                have hsp := Ext.cell_some hxw hsp
                clear hj
                go_simp
                try go_bits
                first | rfl | (rw [if_pos (by omega), if_pos (by omega)]; go_simp; rfl) | (rw [if_pos (by omega)]; go_simp; rfl) | skip
              · have c0 := Ext.cell_some hxw c0
                have c1 := Ext.cell_some hxw c1
                have hcB := Ext.cell_some hxw hcB
                have hsp := Ext.cell_some hxw hsp
                clear hj
                go_simp
                try go_bits
                first | rfl | (rw [if_pos (by omega), if_pos (by omega)]; go_simp; rfl) | (rw [if_pos (by omega)]; go_simp; rfl) | skip
              · have c0 := Ext.cell_some hxw c0
                have c1 := Ext.cell_some hxw c1
                have hcB := Ext.cell_some hxw hcB
                have hsp := Ext.cell_some hxw hsp
                clear hj
                go_simp
                try go_bits
                first | rfl | (rw [if_pos (by omega), if_pos (by omega)]; go_simp; rfl) | (rw [if_pos (by omega)]; go_simp; rfl) | skip
              · have c0 := Ext.cell_some hxw c0
                have c1 := Ext.cell_some hxw c1
                have hcB := Ext.cell_some hxw hcB
                have hsp := Ext.cell_some hxw hsp
                clear hj
                go_simp
                try go_bits
                first | rfl | (rw [if_pos (by omega), if_pos (by omega)]; go_simp; rfl) | (rw [if_pos (by omega)]; go_simp; rfl) | skip
              · have c0 := Ext.cell_some hxw c0
                have c1 := Ext.cell_some hxw c1
                have hcB := Ext.cell_some hxw hcB
                have hsp := Ext.cell_some hxw hsp
                clear hj
                go_simp
                try go_bits
                first | rfl | (rw [if_pos (by omega), if_pos (by omega)]; go_simp; rfl) | (rw [if_pos (by omega)]; go_simp; rfl) | skip
              · have c0 := Ext.cell_some hxw c0
                have c1 := Ext.cell_some hxw c1
                have hcB := Ext.cell_some hxw hcB
                have hsp := Ext.cell_some hxw hsp
                clear hj
                go_simp
                try go_bits
                first | rfl | (rw [if_pos (by omega), if_pos (by omega)]; go_simp; rfl) | (rw [if_pos (by omega)]; go_simp; rfl) | skip
              · have c0 := Ext.cell_some hxw c0
                have c1 := Ext.cell_some hxw c1
                have hcB := Ext.cell_some hxw hcB
                have hsp := Ext.cell_some hxw hsp
                clear hj
                go_simp
                try go_bits
                first | rfl | (rw [if_pos (by omega), if_pos (by omega)]; go_simp; rfl) | (rw [if_pos (by omega)]; go_simp; rfl) | skip
              · have c0 := Ext.cell_some hxw c0
                have c1 := Ext.cell_some hxw c1
                have hcB := Ext.cell_some hxw hcB
                have hsp := Ext.cell_some hxw hsp
                clear hj
                go_simp
                try go_bits
                first | rfl | (rw [if_pos (by omega), if_pos (by omega)]; go_simp; rfl) | (rw [if_pos (by omega)]; go_simp; rfl) | skip
              · have c0 := Ext.cell_some hxw c0
                have c1 := Ext.cell_some hxw c1
                have hcB := Ext.cell_some hxw hcB
                have hsp := Ext.cell_some hxw hsp
                clear hj
                go_simp
                try go_bits
                first | rfl | (rw [if_pos (by omega), if_pos (by omega)]; go_simp; rfl) | (rw [if_pos (by omega)]; go_simp; rfl) | skip
              · have c0 := Ext.cell_some hxw c0
                have c1 := Ext.cell_some hxw c1
                have hcB := Ext.cell_some hxw hcB
                have hsp := Ext.cell_some hxw hsp
                clear hj
                go_simp
                try go_bits
                first | rfl | (rw [if_pos (by omega), if_pos (by omega)]; go_simp; rfl) | (rw [if_pos (by omega)]; go_simp; rfl) | skip
              · have c0 := Ext.cell_some hxw c0
                have c1 := Ext.cell_some hxw c1
                have hcB := Ext.cell_some hxw hcB
                have hsp := Ext.cell_some hxw hsp
                clear hj
                go_simp
                try go_bits
                exact HX.out.1 _ (HW.out.1.ext hxw) (HW.out.2.ext hxw)
              · have c0 := Ext.cell_some hxw c0
                have c1 := Ext.cell_some hxw c1
                have hcB := Ext.cell_some hxw hcB
                have hsp := Ext.cell_some hxw hsp
                clear hj
                go_simp
                try go_bits
                first | rfl | (rw [if_pos (by omega), if_pos (by omega)]; go_simp; rfl) | (rw [if_pos (by omega)]; go_simp; rfl) | skip
            case' hx8_23_p =>
              intro vs w8 hx8 hk
              clear hk
              replace c0 := Ext.cell_some hx8 c0
              replace c1 := Ext.cell_some hx8 c1
              replace hcB := Ext.cell_some hx8 hcB
              replace hsp := Ext.cell_some hx8 hsp
              replace hx1 := Ext.trans hx1 hx8
              go_simp
              have ht8 := HX.out.2.2.1.ext hx8
              have hc8 := ht8.at i j HX.out.2.2.2 (by rw [tabF_row_length hlti]; exact hltj)
              have hf8 := ht8.frozen i j HX.out.2.2.2
              have hs8 := ht8.set i j HX.out.2.2.2 1
              rw [← HF.out, fill_set hlti, HF.out] at hs8
              have hx9 := hx1.setCell (p := ⟨gs i, j, none⟩) (ht8.rowlt i HX.out.2.2.2).1 (.int .i64 1)
              have H8 := Lib.hid (And.intro hs8 hx9)
              clear ht8 hs8 hx9 hx8 hx1 c0 c1
              go_wp2
              go_roundw
              case rel => exact ⟨j + 1, by omega, by go_num, H8.out.1, H8.out.2⟩
              case measure => simp [intOf]; omega
        · have hjL : j = n := by omega
          rw [hjL, fill_row (d := 0) (fun q _ _ => by omega) (fun q h => by omega)] at ht
          have HT := Lib.hid ht
          clear ht
          subst hjL
          go_wp2
          go_roundw
          case rel => exact ⟨i + 1, by omega, by go_num, HT.out, hx1⟩
          case measure => simp [intOf]; omega
    · have hiL : i = n := by omega
      rw [hiL, fill_all (Nat.le_refl _)] at ht
      have htl : (tabF n n T).length = n := tabF_length _ _ _
      have HT := Lib.hid (And.intro (ht.mono hx.size) htl)
      clear ht htl
      subst hiL
      go_wp2
      go_ret2
      exact ⟨_, by rw [HM.out.2.2.1]; rfl, by rw [HM.out.2.2.1]; exact .inr ⟨g, cap, gs, cs, by rw [Option.getD_some, HT.out.2]; rfl, by rw [Option.getD_some, HT.out.2]; exact HT.out.1⟩, hx.trans hx1⟩
end Go.Proofs.YtfiembmfkokllaaGreat

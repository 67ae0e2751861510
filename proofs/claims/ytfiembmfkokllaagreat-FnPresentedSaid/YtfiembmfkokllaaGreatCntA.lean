/- Contract: the number of words of a length, by the program. -/
import Derived.Test.YtfiembmfkokllaaGreatShIr
import Derived.Test.YtfiembmfkokllaaGreatPkB
namespace Go.Proofs.YtfiembmfkokllaaGreat
open Go.RowKit Go.Cm Go.Mx

/-- a sum of numbers within a great bound -/
theorem totalN_any (v : Value) (N : Nat) (f : Nat → Int) (w : World) (h : ReadsI w v (rowF N f)) (hN : N ≤ 9) (hb : ∀ j, 0 ≤ f j ∧ f j ≤ 150094635296999121) :
    Calls Tryz.prog 34 #[v] w fun e w' => e = .returned (.int .i64 (sumN N f)) ∧ w = w' := by
  obtain ⟨a, c, rfl⟩ := h.slice
  rw [rowF_length] at h ⊢
  have HM := Lib.hid (And.intro h hb)
  clear h hb
  go_enter Tryz.func34, Tryz.ntmps34
  go_wp2
  go_loop [3, 8] (fun v i => ∃ k : Nat, k ≤ N ∧ i = .int .i64 k ∧ v = .int .i64 (sumN k f)) (fun _ i => N - (intOf i).toNat)
  case atStart => exact ⟨0, by omega, rfl, rfl⟩
  case round =>
    obtain ⟨k, hk, rfl, rfl⟩ := hrel
    by_cases hlt : k < N
    · obtain ⟨b, o, rfl, hcell⟩ := HM.out.1.at k (by rw [rowF_length]; exact hlt)
      rw [rowF_at _ _ _ hlt] at hcell
      have hs := sumN_succ k f
      obtain ⟨hb1, hb2⟩ := sumN_bd HM.out.2 k
      obtain ⟨hy1, hy2⟩ := HM.out.2 k
      obtain ⟨y, hy⟩ : ∃ y, y = f k := ⟨_, rfl⟩
      obtain ⟨s, hss⟩ : ∃ s, s = sumN k f := ⟨_, rfl⟩
      rw [← hy] at hcell hs hy1 hy2
      rw [← hss] at hs hb1 hb2 ⊢
      have hb3 : s ≤ 1350851717672992089 := by omega
      have HS := Lib.hid hs
      clear hs hy hss hb2
      go_wp2
      go_round
      case rel => exact ⟨k + 1, by omega, by go_num, by rw [HS.out]⟩
      case measure => simp [intOf]; omega
    · have hkn : k = N := by omega
      subst hkn
      go_wp2
      go_ret
      exact ⟨rfl, rfl⟩

/-- how many words of a length the language has -/
def cntW (L : Int) (F : List (List UInt8)) (n : Int) : Int :=
  if shiftOk L F && (decide (0 ≤ n) && decide (n ≤ 20)) then
    if n < 2 then ((langOf L F n).length : Int)
    else match graphO L F with
      | none => 0
      | some m => sumN m.length (colC (at2 m) m.length (n - 2).toNat)
  else -1
theorem cntW_no {L n : Int} {F : List (List UInt8)} (h : shiftOk L F = false ∨ n < 0 ∨ 20 < n) : cntW L F n = -1 := by
  unfold cntW
  rw [if_neg]
  rcases h with h | h | h
  · rw [h]; simp
  · simp; omega
  · simp; omega
theorem cntW_low {L n : Int} {F : List (List UInt8)} (h : shiftOk L F = true) (h0 : 0 ≤ n) (h2 : n < 2) : cntW L F n = ((langOf L F n).length : Int) := by
  unfold cntW
  rw [if_pos (by rw [h]; simp; omega), if_pos h2]
theorem cntW_none {L n : Int} {F : List (List UInt8)} (h : shiftOk L F = true) (h0 : 2 ≤ n) (h2 : n ≤ 20) (hg : graphO L F = none) : cntW L F n = 0 := by
  unfold cntW
  rw [if_pos (by rw [h]; simp; omega), if_neg (by omega), hg]
theorem cntW_some {L n : Int} {F : List (List UInt8)} {m : List (List Int)} (h : shiftOk L F = true) (h0 : 2 ≤ n) (h2 : n ≤ 20) (hg : graphO L F = some m) : cntW L F n = sumN m.length (colC (at2 m) m.length (n - 2).toNat) := by
  unfold cntW
  rw [if_pos (by rw [h]; simp; omega), if_neg (by omega), hg]
/-- entries are 0 and 1 -/
theorem graph_01 {L : Int} {F : List (List UInt8)} {m : List (List Int)} (h : graphO L F = some m) : (1 ≤ m.length ∧ m.length ≤ 9) ∧ (∀ i, i < m.length → (m.getD i []).length = m.length) ∧ ∀ i j, 0 ≤ at2 m i j ∧ at2 m i j ≤ 1 := by
  unfold graphO at h
  by_cases h0 : (langOf L F 2).length = 0
  · rw [if_pos h0] at h; cases h
  · rw [if_neg h0] at h
    have e := Option.some.inj h
    have h9 := (lang2_facts h0).1
    have hl : m.length = (langOf L F 2).length := by rw [← e]; exact tabF_length _ _ _
    refine ⟨by omega, fun i hi => ?_, fun i j => ?_⟩
    · rw [← e] at hi ⊢
      unfold graphT at hi ⊢
      rw [tabF_length] at hi ⊢
      rw [tabF_row _ _ _ _ hi, rowF_length]
    · by_cases hi : i < (langOf L F 2).length
      · by_cases hj : j < (langOf L F 2).length
        · have h3 : at2 m i j = gF F (langOf L F 2) i j := by
            rw [← e]
            unfold graphT
            exact tabF_at _ _ _ _ _ hi hj
          rw [h3]
          unfold gF
          split <;> omega
        · have h3 : at2 m i j = 0 := by
            unfold at2
            rw [← e]
            unfold graphT
            rw [tabF_row _ _ _ _ hi, List.getD_eq_getElem?_getD, List.getElem?_eq_none (by rw [rowF_length]; omega)]
            rfl
          omega
      · have h3 : at2 m i j = 0 := by
          unfold at2
          rw [List.getD_eq_getElem?_getD (l := m), List.getElem?_eq_none (by omega)]
          rfl
        omega

set_option maxRecDepth 100000 in
set_option maxHeartbeats 8000000 in
theorem impl_CountWords_any (L n : Int) (v : Value) (F : List (List UInt8)) (w : World) (h : ReadsW w v F) (hm : MaxC w) (hF : ∀ f ∈ F, f.length ≤ maxLen) :
    Calls Tryz.prog 6 #[.agg #[.int .i64 L, v], .int .i64 n] w fun e w' => e = .returned (.int .i64 (cntW L F n)) ∧ Ext w w' := by
  obtain ⟨pa, ca, rfl⟩ := h.slice
  have hx := Ext.alloc w (.cells #[.int .i64 L, .slice pa F.length ca] 26)
  have bo : Blk (w.alloc (.cells #[.int .i64 L, .slice pa F.length ca] 26)) w.heap.size #[.int .i64 L, .slice pa F.length ca] := by (repeat (first | (refine Blk.mk' ?_; (simp; done)) | apply Blk.old))
  have HS := Lib.hid (And.intro h (And.intro hm hF))
  clear h hm hF
  obtain ⟨ok, hok⟩ : ∃ ok, ok = shiftOk L F := ⟨_, rfl⟩
  have hcall := fun w h => impl_IsShift_any L (.slice pa F.length ca) F w h HS.out.2.2
  rw [← hok] at hcall
  have HC := Lib.hid (And.intro hcall hok)
  clear hcall hok
  have c0 := bo.cell 0 _ rfl
  have c1 := bo.cell 1 (.slice pa F.length ca) rfl
  cases ok
  · have HN := Lib.hid (cntW_no (n := n) (.inl HC.out.2.symm))
    go_enter Tryz.func6, Tryz.ntmps6
    go_wp2_with fail
    with_reducible refine (HC.out.1 _ (HS.out.1.ext hx)).mono ?_
    rintro e w1 ⟨rfl, hy⟩
    replace hx := hx.trans hy
    replace bo := bo.ext hy
    clear hy c0 c1
    have c0 := bo.cell 0 _ rfl
    have c1 := bo.cell 1 (.slice pa F.length ca) rfl
    go_wp2
    go_ret
    exact ⟨ret_int HN.out.symm, hx⟩
  by_cases h0 : n < 0
  · have HN := Lib.hid (cntW_no (L := L) (F := F) (.inr (.inl h0)))
    go_enter Tryz.func6, Tryz.ntmps6
    go_wp2_with fail
    with_reducible refine (HC.out.1 _ (HS.out.1.ext hx)).mono ?_
    rintro e w1 ⟨rfl, hy⟩
    replace hx := hx.trans hy
    replace bo := bo.ext hy
    clear hy c0 c1
    have c0 := bo.cell 0 _ rfl
    have c1 := bo.cell 1 (.slice pa F.length ca) rfl
    go_wp2
    go_ret
    exact ⟨ret_int HN.out.symm, hx⟩
  by_cases h20 : 20 < n
  · have HN := Lib.hid (cntW_no (L := L) (F := F) (.inr (.inr h20)))
    go_enter Tryz.func6, Tryz.ntmps6
    go_wp2_with fail
    with_reducible refine (HC.out.1 _ (HS.out.1.ext hx)).mono ?_
    rintro e w1 ⟨rfl, hy⟩
    replace hx := hx.trans hy
    replace bo := bo.ext hy
    clear hy c0 c1
    have c0 := bo.cell 0 _ rfl
    have c1 := bo.cell 1 (.slice pa F.length ca) rfl
    go_wp2
    go_ret
    exact ⟨ret_int HN.out.symm, hx⟩
  obtain ⟨m, rfl⟩ := Int.eq_ofNat_of_zero_le (show 0 ≤ n by omega)
  by_cases h2 : m < 2
  · have HN := Lib.hid (cntW_low HC.out.2.symm (n := (m : Int)) (by omega) (by omega))
    obtain ⟨K, rfl, hf⟩ := ShFit.of HC.out.2.symm
    have HL := Lib.hid (And.intro hf (langOf_yes (n := m) hf (by omega)))
    have hm6 : m ≤ 6 := by omega
    have hK1 := hf.k1
    have hK0 : 0 < K := by omega
    have hK3 := hf.k3
    clear hf
    have hlt2 : decide ((m : Int) < 2) = true := by simp; omega
    go_enter Tryz.func6, Tryz.ntmps6
    go_wp2_with fail
    with_reducible refine (HC.out.1 _ (HS.out.1.ext hx)).mono ?_
    rintro e w1 ⟨rfl, hy⟩
    replace hx := hx.trans hy
    replace bo := bo.ext hy
    clear hy c0 c1
    have c0 := bo.cell 0 _ rfl
    have c1 := bo.cell 1 (.slice pa F.length ca) rfl
    go_wp2_with fail
    with_reducible refine (impl_language_any K m _ F _ hK0 hK3 hm6 (HS.out.1.ext hx) (HS.out.2.1.ext hx)).mono ?_
    rintro e w2 ⟨z, rfl, hz, hy⟩
    obtain ⟨pz, cz, rfl⟩ := (Own.readsW hz).slice
    replace hx := hx.trans hy
    clear hy hz c0 c1
    have HZ := Lib.hid (show ((languageL K F m).length : Int) = cntW K F m by rw [HN.out, HL.out.2])
    go_wp2
    go_ret
    exact ⟨ret_int HZ.out, hx⟩
  have hg := fun w h hm => impl_GraphOf_any L (.slice pa F.length ca) F w h hm HS.out.2.2
  cases ho : graphO L F with
  | none =>
    rw [ho] at hg
    have HN := Lib.hid (And.intro (cntW_none HC.out.2.symm (n := (m : Int)) (by omega) (by omega) ho) hg)
    clear ho hg
    go_enter Tryz.func6, Tryz.ntmps6
    go_wp2_with fail
    with_reducible refine (HC.out.1 _ (HS.out.1.ext hx)).mono ?_
    rintro e w1 ⟨rfl, hy⟩
    replace hx := hx.trans hy
    replace bo := bo.ext hy
    clear hy c0 c1
    have c0 := bo.cell 0 _ rfl
    have c1 := bo.cell 1 (.slice pa F.length ca) rfl
    go_wp2_with fail
    with_reducible refine (HN.out.2 _ (HS.out.1.ext hx) (HS.out.2.1.ext hx)).mono ?_
    rintro e w2 ⟨u, rfl, hres, hy⟩
    replace hx := hx.trans hy
    clear hy hres c0 c1
    go_wp2
    go_ret
    exact ⟨ret_int HN.out.1.symm, hx⟩
  | some T =>
    rw [ho] at hg
    obtain ⟨⟨hN1, hN9⟩, hrow, h01⟩ := graph_01 ho
    obtain ⟨q, hq⟩ : ∃ q, m = q + 2 := ⟨m - 2, by omega⟩
    have hv := cntW_some HC.out.2.symm (n := (m : Int)) (by omega) (by omega) ho
    rw [show ((m : Int) - 2).toNat = q by omega] at hv
    have hqi : (m : Int) - 2 = (q : Int) := by omega
    have hq18 : q ≤ 18 := by omega
    obtain ⟨N, hN⟩ : ∃ N, N = T.length := ⟨_, rfl⟩
    rw [← hN] at hN1 hN9 hrow hv
    have hbd := fun k i => colC_bd h01 hN9 k i
    obtain ⟨M, hM⟩ : ∃ M, M = at2 T := ⟨_, rfl⟩
    rw [← hM] at hv hbd h01
    have hent : ∀ i j, (T.getD i []).getD j 0 = M i j := fun i j => by rw [hM]; rfl
    have HG := Lib.hid (And.intro hg (And.intro hrow (And.intro hv (And.intro hN (And.intro hbd (And.intro hent h01))))))
    have h2i : (2 : Int) ≤ (m : Int) := by omega
    clear ho hg hrow hv hN hbd h01 hM hent hq h0 h20 h2
    have hmk := run_make_row' (P := Tryz.prog) 52 3 (.int .i64 0) 8 Tryz.underlying52 infoInt rfl .i64 .i64 N (by omega) (by omega)
    go_enter Tryz.func6, Tryz.ntmps6
    go_wp2_with fail
    with_reducible refine (HC.out.1 _ (HS.out.1.ext hx)).mono ?_
    rintro e w1 ⟨rfl, hy⟩
    replace hx := hx.trans hy
    replace bo := bo.ext hy
    clear hy c0 c1
    have c0 := bo.cell 0 _ rfl
    have c1 := bo.cell 1 (.slice pa F.length ca) rfl
    go_wp2_with fail
    with_reducible refine (HG.out.1 _ (HS.out.1.ext hx) (HS.out.2.1.ext hx)).mono ?_
    rintro e w2 ⟨u, rfl, hres, hy⟩
    replace hx := hx.trans hy
    obtain ⟨pu, cu, rfl⟩ := hres.reads.slice
    have hrd := hres.reads
    rw [Option.getD_some] at hrd ⊢
    obtain ⟨-, hlu, hcu⟩ := hrd.len
    rw [← HG.out.2.2.2.1] at hrd hlu ⊢
    have HR := Lib.hid hrd
    clear hy hres c0 c1 hrd bo
    have hz0 : Own (w2.alloc (.cells (madeCells #[.int .i64 0] N) 3)) w2.heap.size 3 (.slice (some ⟨w2.heap.size, 0, none⟩) N N) (icells (onesTo N 0)) := by
      have := Own.made w2 3 (.int .i64 0) N (by unfold maxLen; omega)
      rw [onesTo_zero, icells_replicate]; exact this
    have hxz := Ext.alloc w2 (.cells (madeCells #[.int .i64 0] N) 3)
    go_wp2
    go_loopw [43] (fun i wr => ∃ k : Nat, k ≤ N ∧ i = .int .i64 k ∧ Own wr w2.heap.size 3 (.slice (some ⟨w2.heap.size, 0, none⟩) N N) (icells (onesTo N k)) ∧ Ext w2 wr) (fun i _ => N - (intOf i).toNat)
    case atStart => exact ⟨0, by omega, rfl, hz0, hxz⟩
    case round =>
      clear hz0 hxz
      obtain ⟨k, hk, rfl, hown, hxr⟩ := hrel
      by_cases hlt : k < N
      · have hcell := hown.int_at k (by rw [onesTo_length]; exact hlt)
        have hfr := hown.frozen k
        have hst := hown.store k (.int .i64 1)
        rw [icells_set, onesTo_set] at hst
        have hx' := hxr.setCell (p := ⟨w2.heap.size, k, none⟩) (Nat.le_refl _) (.int .i64 1)
        have H8 := Lib.hid (And.intro hst hx')
        clear hst hx' hown hxr
        go_wp2
        go_roundw
        case rel => exact ⟨k + 1, by omega, by go_num, H8.out.1, H8.out.2⟩
        case measure => simp [intOf]; omega
      · have hkN : k = N := by omega
        rw [hkN, onesTo_all M N] at hown
        obtain ⟨g0, hg0⟩ : ∃ g, g = w2.heap.size := ⟨_, rfl⟩
        have hown' : Own wr w2.heap.size 3 (.slice (some ⟨g0, 0, none⟩) N N) (icells (rowF N (colC M N 0))) := by rw [hg0]; exact hown
        rw [← hg0]
        have HO := Lib.hid hown'
        clear hown hown' hkN hg0
        go_wp2
        go_loopw [7, 52] (fun z i wq => ∃ (k g : Nat), k ≤ q ∧ i = .int .i64 k ∧ z = .slice (some ⟨g, 0, none⟩) N N ∧ Own wq w2.heap.size 3 (.slice (some ⟨g, 0, none⟩) N N) (icells (rowF N (colC M N k))) ∧ Ext w2 wq) (fun _ i _ => q - (intOf i).toNat)
        case atStart => exact ⟨0, g0, by omega, rfl, rfl, HO.out, hxr⟩
        case round =>
          clear hxr HO
          obtain ⟨k, g, hk, rfl, rfl, hown, hxq⟩ := hrel
          by_cases hltk : k < q
          · have hbk : ∀ i, 0 ≤ colC M N k i ∧ colC M N k i ≤ 150094635296999121 := fun i => by
              have h1 := HG.out.2.2.2.2.1 k i
              have h2 := pow9_le (show k ≤ 18 by omega)
              omega
            have hsb : ∀ i j, 0 ≤ colTo M N k i j ∧ (j ≤ 9 → colTo M N k i j ≤ 1350851717672992089) := fun i j => by
              have h := sumN_bd (B := 150094635296999121) (f := fun q => M i q * colC M N k q) (fun t => mul01 (HG.out.2.2.2.2.2.2 i t).1 (HG.out.2.2.2.2.2.2 i t).2 (hbk t)) j
              refine ⟨h.1, fun hj => ?_⟩
              have h2 : colTo M N k i j ≤ (j : Int) * 150094635296999121 := h.2
              omega
            obtain ⟨wo, rfl⟩ : ∃ wo : World, wo = wr := ⟨_, rfl⟩
            have hgl := hown.lt
            have hz1 : Own (wo.alloc (.cells (madeCells #[.int .i64 0] N) 3)) wo.heap.size 3 (.slice (some ⟨wo.heap.size, 0, none⟩) N N) (icells (nextTo M N k 0 0)) := by
              have := Own.made wo 3 (.int .i64 0) N (by unfold maxLen; omega)
              rw [nextTo_zero, icells_replicate]; exact this
            have hxo := Ext.alloc wo (.cells (madeCells #[.int .i64 0] N) 3)
            have HO := Lib.hid (And.intro hown (And.intro hbk hsb))
            clear hown hbk hsb
            go_wp2
            go_loopw [59] (fun i wi => ∃ p : Nat, p ≤ N ∧ i = .int .i64 p ∧ Own wi wo.heap.size 3 (.slice (some ⟨wo.heap.size, 0, none⟩) N N) (icells (nextTo M N k p 0)) ∧ Ext wo wi) (fun i _ => N - (intOf i).toNat)
            case atStart => exact ⟨0, by omega, rfl, hz1, hxo⟩
            case round =>
              clear hz1 hxo
              obtain ⟨p, hp, rfl, hnx, hxi⟩ := hrel
              by_cases hltp : p < N
              · obtain ⟨bu, ou, a', c', rfl, hcR, hrow⟩ := HR.out.at p (by rw [← HG.out.2.2.2.1]; exact hltp)
                have hrl := HG.out.2.1 p hltp
                rw [hrl] at hcR hrow
                have hlr := hrow.len.2.1
                have hcR := hxi.cell_some (hxq.cell_some hcR)
                have HW := Lib.hid hrow
                clear hrow hrl
                go_wp2
                clear hcR
                go_loopw [66] (fun i wj => ∃ j : Nat, j ≤ N ∧ i = .int .i64 j ∧ Own wj wo.heap.size 3 (.slice (some ⟨wo.heap.size, 0, none⟩) N N) (icells (nextTo M N k p j)) ∧ Ext wo wj) (fun i _ => N - (intOf i).toNat)
                case atStart => exact ⟨0, by omega, rfl, hnx, hxi⟩
                case round =>
                  clear hnx hxi
                  obtain ⟨j, hj, rfl, hnx, hxj⟩ := hrel
                  by_cases hltj : j < N
                  · obtain ⟨br, or_, rfl, hcx⟩ := ((HW.out.ext hxq).ext hxj).at j (by rw [HG.out.2.1 p hltp]; exact hltj)
                    rw [HG.out.2.2.2.2.2.1] at hcx
                    have hcc := (HO.out.1.ext hxj).int_at j (by rw [rowF_length]; exact hltj)
                    rw [rowF_at _ _ _ hltj] at hcc
                    have hcs := hnx.int_at p (by rw [nextTo_length]; exact hltp)
                    rw [nextTo_at _ _ _ _ _ hltp] at hcs
                    have hset := nextTo_set M N k p j
                    obtain ⟨hx0, hx1⟩ := HG.out.2.2.2.2.2.2 p j
                    obtain ⟨hc0, hc1⟩ := HO.out.2.1 j
                    obtain ⟨hs0, hs1⟩ := HO.out.2.2 p j
                    replace hs1 := hs1 (by omega)
                    obtain ⟨x, hxx⟩ : ∃ x, x = M p j := ⟨_, rfl⟩
                    obtain ⟨c, hcd⟩ : ∃ x, x = colC M N k j := ⟨_, rfl⟩
                    obtain ⟨s, hsd⟩ : ∃ x, x = colTo M N k p j := ⟨_, rfl⟩
                    rw [← hxx] at hcx hset hx0 hx1
                    rw [← hcd] at hcc hset hc0 hc1
                    rw [← hsd] at hcs hset hs0 hs1
                    obtain ⟨hp0, hp1⟩ := mul01 hx0 hx1 ⟨hc0, hc1⟩
                    obtain ⟨t, ht⟩ : ∃ t, x * c = t := ⟨_, rfl⟩
                    rw [ht] at hset hp0 hp1
                    have hst1 : s + t ≤ 9223372036854775807 := by omega
                    have HQ := Lib.hid (And.intro hset hnx)
                    clear hset hxx hcd hsd hnx
                    obtain ⟨wz, rfl⟩ : ∃ wz : World, wz = wr := ⟨_, rfl⟩
                    go_wp2
                    refine wp_region_tail (by kernel_rfl) 12 (.known ?hx8_34_v0 :: .known ?hx8_34_v1 :: .known ?hx8_34_v2 :: .known ?hx8_34_v3 :: .known ?hx8_34_v4 :: .known ?hx8_34_v5 :: .known ?hx8_34_v6 :: .known ?hx8_34_v7 :: .known ?hx8_34_v8 :: .known ?hx8_34_v9 :: .known ?hx8_34_v10 :: .known ?hx8_34_v11 :: []) rfl (by decide) (by kernel_rfl) (by kernel_rfl) ?hx8_34_s ?hx8_34_p
                    case hx8_34_s =>
                      intro vs
                      refine ⟨fun w' hxw hj => ?_, fun w' hxw hj => ?_, fun w' hxw hj => ?_, fun w' hxw hj => ?_, fun w' hxw hj => ?_, fun w' hxw hj => ?_, fun w' hxw hj => ?_, fun w' hxw hj => ?_, fun w' hxw hj => ?_, fun w' hxw hj => ?_, fun w' hxw hj => ?_, fun w' hxw hj => ?_, trivial⟩
                      · have hcc := Ext.cell_some hxw hcc
                        have hcs := Ext.cell_some hxw hcs
                        clear hj
                        go_simp
                        try go_bits
                        first | rfl | (rw [if_pos (by omega), if_pos (by omega)]; go_simp; rfl) | (rw [if_pos (by omega)]; go_simp; rfl) | skip
                      · have hcc := Ext.cell_some hxw hcc
                        have hcs := Ext.cell_some hxw hcs
                        clear hj
                        go_simp
                        try go_bits
                        first | rfl | (rw [if_pos (by omega), if_pos (by omega)]; go_simp; rfl) | (rw [if_pos (by omega)]; go_simp; rfl) | skip
                      · have hcc := Ext.cell_some hxw hcc
                        have hcs := Ext.cell_some hxw hcs
                        clear hj
                        go_simp
                        try go_bits
                        first | rfl | (rw [if_pos (by omega), if_pos (by omega)]; go_simp; rfl) | (rw [if_pos (by omega)]; go_simp; rfl) | skip
                      · have hcc := Ext.cell_some hxw hcc
                        have hcs := Ext.cell_some hxw hcs
                        clear hj
                        go_simp
                        try go_bits
                        first | rfl | (rw [if_pos (by omega), if_pos (by omega)]; go_simp; rfl) | (rw [if_pos (by omega)]; go_simp; rfl) | skip
                      · have hcc := Ext.cell_some hxw hcc
                        have hcs := Ext.cell_some hxw hcs
                        clear hj
                        go_simp
                        try go_bits
                        first | rfl | (rw [if_pos (by omega), if_pos (by omega)]; go_simp; rfl) | (rw [if_pos (by omega)]; go_simp; rfl) | skip
                      · have hcc := Ext.cell_some hxw hcc
                        have hcs := Ext.cell_some hxw hcs
                        clear hj
                        go_simp
                        try go_bits
                        first | rfl | (rw [if_pos (by omega), if_pos (by omega)]; go_simp; rfl) | (rw [if_pos (by omega)]; go_simp; rfl) | skip
                      · have hcc := Ext.cell_some hxw hcc
                        have hcs := Ext.cell_some hxw hcs
                        clear hj
                        go_simp
                        try go_bits
                        first | rfl | (rw [if_pos (by omega), if_pos (by omega)]; go_simp; rfl) | (rw [if_pos (by omega)]; go_simp; rfl) | skip
                      · have hcc := Ext.cell_some hxw hcc
                        have hcs := Ext.cell_some hxw hcs
                        clear hj
                        go_simp
                        try go_bits
                        first | rfl | (rw [if_pos (by omega), if_pos (by omega)]; go_simp; rfl) | (rw [if_pos (by omega)]; go_simp; rfl) | skip
                      · have hcc := Ext.cell_some hxw hcc
                        have hcs := Ext.cell_some hxw hcs
                        clear hj
                        go_simp
                        try go_bits
                        first | rfl | (rw [if_pos (by omega), if_pos (by omega)]; go_simp; rfl) | (rw [if_pos (by omega)]; go_simp; rfl) | skip
                      · have hcc := Ext.cell_some hxw hcc
                        have hcs := Ext.cell_some hxw hcs
                        clear hj
                        go_simp
                        try go_bits
                        first | rfl | (rw [if_pos (by omega), if_pos (by omega)]; go_simp; rfl) | (rw [if_pos (by omega)]; go_simp; rfl) | skip
                      · have hcc := Ext.cell_some hxw hcc
                        have hcs := Ext.cell_some hxw hcs
                        clear hj
                        go_simp
                        try go_bits
                        first | rfl | (rw [if_pos (by omega), if_pos (by omega)]; go_simp; rfl) | (rw [if_pos (by omega)]; go_simp; rfl) | skip
                      · have hcc := Ext.cell_some hxw hcc
                        have hcs := Ext.cell_some hxw hcs
                        clear hj
                        go_simp
                        try go_bits
                        first | rfl | (rw [if_pos (by omega), if_pos (by omega)]; go_simp; rfl) | (rw [if_pos (by omega)]; go_simp; rfl) | skip
                    case' hx8_34_p =>
                      intro vs w8 hx8 hk
                      clear hk
                      replace hcc := Ext.cell_some hx8 hcc
                      replace hcs := Ext.cell_some hx8 hcs
                      replace hxj := Ext.trans hxj hx8
                      go_simp
                      have hn8 := HQ.out.2.ext hx8
                      have hf8 := hn8.frozen p
                      have hst := hn8.store p (.int .i64 (s + t))
                      rw [icells_set, HQ.out.1] at hst
                      have hx9 := hxj.setCell (p := ⟨wo.heap.size, p, none⟩) (Nat.le_refl _) (.int .i64 (s + t))
                      have H8 := Lib.hid (And.intro hst hx9)
                      clear hst hx9 hn8 hx8 hxj hcc
                      go_wp2
                      go_roundw
                      case rel => exact ⟨j + 1, by omega, by go_num, H8.out.1, H8.out.2⟩
                      case measure => simp [intOf]; omega
                  · have hjN : j = N := by omega
                    rw [hjN, nextTo_row] at hnx
                    go_wp2
                    go_roundw
                    case rel => exact ⟨p + 1, by omega, by go_num, hnx, hxj⟩
                    case measure => simp [intOf]; omega
              · have hpN : p = N := by omega
                rw [hpN, nextTo_all] at hnx
                have HN2 := Lib.hid (hnx.mono hxq.size)
                have hxw := hxq.trans hxi
                clear hnx hxi
                go_wp2
                go_roundw
                case rel => exact ⟨k + 1, wo.heap.size, by omega, by go_num, rfl, HN2.out, hxw⟩
                case measure => simp [intOf]; omega
          · have hkq : k = q := by omega
            have hbk : ∀ i, 0 ≤ colC M N q i ∧ colC M N q i ≤ 150094635296999121 := fun i => by
              have h1 := HG.out.2.2.2.2.1 q i
              have h2 := pow9_le hq18
              omega
            rw [hkq] at hown
            have HT := Lib.hid (And.intro hown.readsI hbk)
            have hxw := hx.trans hxq
            clear hown hbk
            go_wp2_with fail
            with_reducible refine (totalN_any _ N (colC M N q) _ HT.out.1 hN9 HT.out.2).mono ?_
            rintro e w9 ⟨rfl, rfl⟩
            go_wp2
            go_ret
            exact ⟨ret_int HG.out.2.2.1.symm, hxw⟩
end Go.Proofs.YtfiembmfkokllaaGreat

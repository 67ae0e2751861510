/- Contracts: products of polynomials. -/
import Derived.Test.YtdngkfedkgiioaaDoorPolyC
namespace Go.Proofs.YtdngkfedkgiioaaDoor
open Go.RowKit Go.Mx

set_option maxRecDepth 100000 in
set_option maxHeartbeats 2000000 in
theorem impl_MultiplyPolys_any (v v' : Value) (a b : List Int) (w : World) (h : ReadsI w v a) (h' : ReadsI w v' b) :
    Calls Tryd.prog 13 #[v, v'] w fun e w' => ∃ u, e = .returned u ∧ ResI w' w.heap.size u (polyMul a b) ∧ Ext w w' := by
  have ha := fun w h => impl_areNumbers_any v a 30 30 w h (by omega) rfl
  have hb := fun w h => impl_areNumbers_any v' b 30 30 w h (by omega) rfl
  cases hna : numsOk 30 a with
  | false =>
    have e1 : polyMul a b = [] := polyMul_no (by rw [hna]; rfl)
    rw [e1]
    simp only [hna] at ha
    have HA := Lib.hid (ha w h)
    clear ha hb e1 hna
    go_enter Tryd.func13, Tryd.ntmps13
    go_wp2_with (go_at_call 58; with_reducible refine HA.out.mono ?_; rintro e w' ⟨rfl, rfl⟩)
    go_ret
    exact ⟨_, rfl, Own.nil _ _ _, Ext.refl _⟩
  | true => cases hnb : numsOk 30 b with
  | false =>
    have e1 : polyMul a b = [] := polyMul_no (by rw [hnb]; simp)
    rw [e1]
    simp only [hna] at ha
    simp only [hnb] at hb
    have HA := Lib.hid (And.intro (ha w h) (hb w h'))
    clear ha hb e1 hna hnb
    go_enter Tryd.func13, Tryd.ntmps13
    go_wp2_with (first | (go_at_call 58; with_reducible refine HA.out.1.mono ?_; rintro e w' ⟨rfl, rfl⟩) | (go_at_call 58; with_reducible refine HA.out.2.mono ?_; rintro e w' ⟨rfl, rfl⟩))
    go_ret
    exact ⟨_, rfl, Own.nil _ _ _, Ext.refl _⟩
  | true =>
    simp only [hna] at ha
    simp only [hnb] at hb
    have e1 := polyMul_yes hna hnb
    obtain ⟨hla, hba⟩ := numsOk_yes hna
    obtain ⟨hlb, hbb⟩ := numsOk_yes hnb
    have HA := Lib.hid (And.intro (ha w h) (hb w h'))
    rw [e1]
    obtain ⟨p, c, rfl⟩ := h.slice
    obtain ⟨p', c', rfl⟩ := h'.slice
    have hlena := h.len
    have hlenb := h'.len
    obtain ⟨n, hn⟩ : ∃ n, n = a.length := ⟨_, rfl⟩
    obtain ⟨n', hn'⟩ : ∃ n', n' = b.length := ⟨_, rfl⟩
    have hat := fun i k q (hi : i < a.length) (hk : k < b.length) => mulRow_at (N := n + n') hba hbb hla hlb i k q hi hk
    have hprod := fun i k => mul_bd (a := 1000000) (b := 1000000) (hba i).1 (hba i).2 (hbb k).1 (hbb k).2
    rw [← hn] at h hla hlena HA ⊢
    rw [← hn'] at h' hlb hlenb HA ⊢
    obtain ⟨-, hlen1, hlen2⟩ := hlena
    obtain ⟨-, hlen1', hlen2'⟩ := hlenb
    have hmk := run_make_row' (P := Tryd.prog) 26 3 (.int .i64 0) 8 Tryd.underlying26 infoInt rfl .i64 .i64 (n + n') (by omega) (by omega)
    have ec : ((n + n' : Nat) : Int) = (n : Int) + (n' : Int) := by omega
    rw [ec] at hmk
    have HM := Lib.hid (And.intro h (And.intro h' (And.intro hn (And.intro hn' (And.intro hat hprod)))))
    clear ha hb e1 hna hnb hba hbb h h' hn hn' hat hprod ec
    go_enter Tryd.func13, Tryd.ntmps13
    go_wp2_with (first | (go_at_call 58; with_reducible refine HA.out.1.mono ?_; rintro e w' ⟨rfl, rfl⟩) | (go_at_call 58; with_reducible refine HA.out.2.mono ?_; rintro e w' ⟨rfl, rfl⟩))
    clear hmk
    have hB0 : Own (w.alloc (.cells (madeCells #[.int .i64 0] (n + n')) 3)) w.heap.size 3 (.slice (some ⟨w.heap.size, 0, none⟩) (n + n') (n + n')) (icells (mulTo (n + n') a b 0)) := by
      have := Own.made w 3 (.int .i64 0) (n + n') (by unfold maxLen; omega)
      simpa [icells, mulTo] using this
    go_loopw [26] (fun i wr => ∃ k : Nat, k ≤ n ∧ i = .int .i64 k ∧ Own wr w.heap.size 3 (.slice (some ⟨w.heap.size, 0, none⟩) (n + n') (n + n')) (icells (mulTo (n + n') a b k)) ∧ Ext w wr) (fun i _ => n - (intOf i).toNat)
    case atStart => exact ⟨0, by omega, rfl, hB0, Ext.alloc _ _⟩
    case round =>
      clear hB0
      obtain ⟨i, hi, rfl, hown, hx⟩ := hrel
      by_cases hlt : i < n
      · have him : i < a.length := by rw [← HM.out.2.2.1]; exact hlt
        obtain ⟨bk, o, rfl, hcell⟩ := (HM.out.1.ext hx).at i him
        obtain ⟨x, hxx⟩ : ∃ x, x = a.getD i 0 := ⟨_, rfl⟩
        rw [← hxx] at hcell
        have HX := Lib.hid (And.intro hxx him)
        have hz0 : mulTo (n + n') a b i = mulRow (mulTo (n + n') a b i) x b i 0 := rfl
        rw [hz0] at hown
        clear hxx him hz0
        go_wp2
        go_loopw [33] (fun j wr => ∃ k : Nat, k ≤ n' ∧ j = .int .i64 k ∧ Own wr w.heap.size 3 (.slice (some ⟨w.heap.size, 0, none⟩) (n + n') (n + n')) (icells (mulRow (mulTo (n + n') a b i) x b i k)) ∧ Ext w wr) (fun j _ => n' - (intOf j).toNat)
        case atStart => exact ⟨0, by omega, rfl, hown, hx⟩
        case round =>
          clear hown hx hcell
          obtain ⟨k, hk, rfl, hown, hx⟩ := hrel
          by_cases hltk : k < n'
          · have hkm : k < b.length := by rw [← HM.out.2.2.2.1]; exact hltk
            obtain ⟨bk', o', rfl, hcell⟩ := (HM.out.2.1.ext hx).at k hkm
            obtain ⟨q, hq⟩ : ∃ q, q = i + k := ⟨_, rfl⟩
            have ek : (i : Int) + (k : Int) = (q : Int) := by omega
            have hqN : q < n + n' := by omega
            have hp := HM.out.2.2.2.2.2 i k
            have hs := HM.out.2.2.2.2.1 i k q HX.out.2 hkm
            have hl : (mulRow (mulTo (n + n') a b i) x b i k).length = n + n' := by rw [mulRow_length, mulTo_length]
            have hc := hown.int_at q (by rw [hl]; omega)
            have hf := hown.frozen q
            rw [← HX.out.1] at hp hs
            obtain ⟨y, hy⟩ : ∃ y, y = b.getD k 0 := ⟨_, rfl⟩
            rw [← hy] at hp hcell
            obtain ⟨s, hss⟩ : ∃ s, s = (mulRow (mulTo (n + n') a b i) x b i k).getD q 0 := ⟨_, rfl⟩
            rw [← hss] at hs hc
            have hst := hown.store q (.int .i64 (s + x * y))
            rw [icells_set] at hst
            have e : (mulRow (mulTo (n + n') a b i) x b i k).set q (s + x * y) = mulRow (mulTo (n + n') a b i) x b i (k + 1) := by
              rw [hss, hy, hq]; rfl
            rw [e] at hst
            have hx' := hx.setCell (p := ⟨w.heap.size, q, none⟩) (Nat.le_refl _) (.int .i64 (s + x * y))
            obtain ⟨hp1, hp2⟩ := hp
            obtain ⟨hs1, hs2⟩ := hs
            have hb1 : -9223372036854775808 ≤ s + x * y := by omega
            have hb2 : s + x * y ≤ 9223372036854775807 := by omega
            have HS := Lib.hid (And.intro hst hx')
            clear hst hx' e hl hy hss hown hx hq
            go_wp2
            go_roundw
            case rel => exact ⟨k + 1, by omega, by go_num, HS.out.1, HS.out.2⟩
            case measure => simp [intOf]; omega
          · have hkn : k = n' := by omega
            subst hkn
            go_wp2
            go_roundw
            case rel => exact ⟨i + 1, by omega, by go_num, by rw [mulTo, ← HX.out.1, ← HM.out.2.2.2.1]; exact hown, hx⟩
            case measure => simp [intOf]; omega
      · have hin : i = n := by omega
        subst hin
        have hl : (mulTo (i + n') a b i).length = i + n' := mulTo_length _ _ _ _
        have ht := impl_trimmed_any w.heap.size w.heap.size (i + n') (mulTo (i + n') a b i) wr (by rw [hl]; exact hown)
        rw [hl] at ht
        have hle : (trimL (mulTo (i + n') a b i)).length ≤ i + n' := by unfold trimL; rw [List.length_take, hl]; omega
        have hres : ResI wr w.heap.size (.slice (some ⟨w.heap.size, 0, none⟩) (trimL (mulTo (i + n') a b i)).length (i + n')) (trimL (mulTo (i + n') a b i)) := by
          have := hown.take (trimL (mulTo (i + n') a b i)).length hle
          unfold ResI
          have e : (icells (mulTo (i + n') a b i)).take (trimL (mulTo (i + n') a b i)).length = icells (trimL (mulTo (i + n') a b i)) := by
            unfold icells
            rw [← List.map_take]
            congr 1
            unfold trimL
            rw [List.length_take]
            exact (List.take_eq_take_min).symm
          rw [e] at this
          exact this
        have HT := Lib.hid (And.intro ht hres)
        have ec : ((i + n' : Nat) : Int) = (i : Int) + (n' : Int) := by omega
        clear ht hres hle hl hown
        go_wp2_with fail
        with_reducible refine HT.out.1.mono ?_
        rintro e w' ⟨rfl, rfl⟩
        go_wp2
        go_ret
        exact ⟨_, rfl, HT.out.2, hx⟩
end Go.Proofs.YtdngkfedkgiioaaDoor

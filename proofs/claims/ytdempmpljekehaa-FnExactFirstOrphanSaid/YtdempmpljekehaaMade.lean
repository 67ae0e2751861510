/- Contract: the code that gives letters by a function. -/
import Derived.Test.YtdempmpljekehaaWordA
namespace Go.Proofs.Ytdempmpljekehaa
open Go.RowKit Go.Cm

/-- may there be a code so wide? -/
def wideOk (L W : Int) : Bool := (decide (L = 2) || decide (L = 3)) && (decide (1 ≤ W) && (decide (W ≤ 4) && decide (pw L W ≤ 27)))

theorem wideOk_yes {L W : Int} (h : wideOk L W = true) : (L = 2 ∨ L = 3) ∧ 1 ≤ W ∧ W ≤ 4 ∧ pw L W ≤ 27 := by
  simpa [wideOk] using h

set_option maxHeartbeats 1000000 in
theorem impl_madeCode_no (L W : Int) (g : Value) (w : World) (h : wideOk L W = false) :
    Calls Try.prog 76 #[.int .i64 L, .int .i64 W, g] w fun e w' => e = .returned (.tuple #[.agg #[.int .i64 0, .int .i64 0, .string ⟨#[]⟩], .bool false]) ∧ Ext w w' := by
  by_cases h1 : L = 2 ∨ L = 3
  · have hl : 2 ≤ L ∧ L ≤ 3 := by omega
    obtain ⟨hl2, hl3⟩ := hl
    have t1 : ((L != 2) = false) ∨ ((L != 2) = true ∧ (L != 3) = false) := by rcases h1 with h | h <;> simp [h]
    have H1 := Lib.hid h1
    clear h1
    by_cases h2 : 1 ≤ W
    · by_cases h3 : W ≤ 4
      · have h4 : 27 < pw L W := by
          have h1 := H1.out
          simp [wideOk, h1, h2, h3] at h
          omega
        have t4 : decide (27 < pw L W) = true := by simpa using h4
        clear h
        rcases t1 with t1 | ⟨t1, t1'⟩
        all_goals
          go_enter Try.func76, Try.ntmps76
          go_wp2_with fail
          refine (impl_power_any _ _ _ (by omega) (by omega) (by omega) (by omega)).mono ?_
          rintro e w1 ⟨rfl, rfl⟩
          go_wp2
          refine bodyPost_ret (v := .tuple #[.agg #[.int .i64 0, .int .i64 0, .string ⟨#[]⟩], .bool false]) (by simp [results, Try.results76, go_sem]) rfl ⟨rfl, Ext.alloc _ _⟩
      · clear h
        rcases t1 with t1 | ⟨t1, t1'⟩
        all_goals
          go_enter Try.func76, Try.ntmps76
          go_wp2
          refine bodyPost_ret (v := .tuple #[.agg #[.int .i64 0, .int .i64 0, .string ⟨#[]⟩], .bool false]) (by simp [results, Try.results76, go_sem]) rfl ⟨rfl, Ext.alloc _ _⟩
    · clear h
      rcases t1 with t1 | ⟨t1, t1'⟩
      all_goals
        go_enter Try.func76, Try.ntmps76
        go_wp2
        refine bodyPost_ret (v := .tuple #[.agg #[.int .i64 0, .int .i64 0, .string ⟨#[]⟩], .bool false]) (by simp [results, Try.results76, go_sem]) rfl ⟨rfl, Ext.alloc _ _⟩
  · have t1 : (L != 2) = true := by simp; omega
    have t1' : (L != 3) = true := by simp; omega
    clear h h1
    go_enter Try.func76, Try.ntmps76
    go_wp2
    refine bodyPost_ret (v := .tuple #[.agg #[.int .i64 0, .int .i64 0, .string ⟨#[]⟩], .bool false]) (by simp [results, Try.results76, go_sem]) rfl ⟨rfl, Ext.alloc _ _⟩

set_option maxRecDepth 100000 in
set_option maxHeartbeats 1000000 in
theorem impl_madeCode_yes (K n : Nat) (f : FuncId) (cap : Array Value) (G : List UInt8 → UInt8) (w : World) (h : wideOk K n = true) (hcf : ∀ args w, (callFunc f args).run Try.prog w = .ok (.enter f args) w)
    (hgive : ∀ u w', u ∈ wordsL K n → Ext w w' → Calls Try.prog f (#[.string (mkS u)] ++ cap) w' fun e w'' => e = .returned (.int .u8 ((G u).toNat : Int)) ∧ Ext w' w'') :
    Calls Try.prog 76 #[.int .i64 K, .int .i64 n, .func (.func f) #[] cap] w fun e w' => e = .returned (.tuple #[.agg #[.int .i64 K, .int .i64 n, .string (mkS ((wordsL K n).map G))], .bool true]) ∧ Ext w w' := by
  obtain ⟨hL, h1, h4, h27⟩ := wideOk_yes h
  have t1 : (((K : Int) != 2) = false) ∨ (((K : Int) != 2) = true ∧ ((K : Int) != 3) = false) := by rcases hL with h | h <;> simp [h]
  have hK0 : 0 < K := by omega
  have hK3 : K ≤ 3 := by omega
  have hn1 : 1 ≤ n := by omega
  have hn4 : n ≤ 4 := by omega
  rw [pw_nat] at h27
  have hN27 : K ^ n ≤ 27 := by omega
  have HG := Lib.hid hgive
  clear hgive h hL h1 h4 h27
  have hN4 : K ^ n ≤ 43046721 := by omega
  obtain ⟨N, hN⟩ : ∃ N, N = K ^ n := ⟨_, rfl⟩
  have hNp : 0 < N := by rw [hN]; exact Nat.pow_pos hK0
  have hN27' : N ≤ 27 := by omega
  have HN := Lib.hid hN
  have H4 := Lib.hid hN4
  clear hN hN4 hN27
  rcases t1 with t1 | ⟨t1, t1'⟩
  all_goals
    go_enter Try.func76, Try.ntmps76
    go_wp2_with fail
    refine (impl_power_any _ _ _ (by omega) (by omega) (by omega) (by omega)).mono ?_
    rintro e w1 ⟨rfl, rfl⟩
    rw [pw_nat, ← HN.out]
    go_wp2_with fail
    refine (impl_wordsOf_any K n _ hK0 hK3 (by omega) H4.out).mono ?_
    rintro e w2 ⟨v35, rfl, hw, hx⟩
    have hwl : (scells (wordsL K n)).length = N := by rw [HN.out]; simp [scells, wordsL]
    have hsh := hw.shape
    rw [hwl] at hsh
    rcases hsh with ⟨_, hnil⟩ | ⟨g, cap, rfl, hg, _, _, _⟩
    · exfalso
      rw [hnil] at hwl
      simp at hwl
      omega
    have hg' : w.heap.size + 1 < g := by simp at hg; omega
    clear hg
    have hxw := ((Ext.alloc _ _).trans (Ext.alloc _ _)).trans hx
    have hB0 : Own w2 w.heap.size 5 (.slice (some ⟨w.heap.size + 1, 0, none⟩) 0 0) [] := by
      have h := (Own.lit (w.alloc (.cells #[.int .i64 0, .int .i64 0, .string ⟨#[]⟩] 26)) 5 [] (by simp)).ext hx
      simp only [World.size_alloc, List.length_nil] at h
      exact h.mono (by omega)
    have f0 : w2.frozen? ⟨w.heap.size, 0, none⟩ = false := (Below.frozen (p := ⟨w.heap.size, 0, none⟩) hx (by simp; omega)).trans (by simp)
    have f1 : w2.frozen? ⟨w.heap.size, 1, none⟩ = false := (Below.frozen (p := ⟨w.heap.size, 1, none⟩) hx (by simp; omega)).trans (by simp)
    have f2 : w2.frozen? ⟨w.heap.size, 2, none⟩ = false := (Below.frozen (p := ⟨w.heap.size, 2, none⟩) hx (by simp; omega)).trans (by simp)
    have c0 : w2.cell? ⟨w.heap.size, 0, none⟩ = some (.int .i64 0) := hx.cell_some (by simp)
    have c1 : w2.cell? ⟨w.heap.size, 1, none⟩ = some (.int .i64 0) := hx.cell_some (by simp)
    have c2 : w2.cell? ⟨w.heap.size, 2, none⟩ = some (.string ⟨#[]⟩) := hx.cell_some (by simp)
    have hsz : w.heap.size + 1 < w2.heap.size := by have := hx.size; simp at this; omega
    clear hx
    have HWL := Lib.hid hwl
    clear hwl
    go_wp2
    go_loopw [8, 10, 37] (fun v _ i wr => ∃ k : Nat, k ≤ N ∧ i = .int .i64 k ∧ Own wr w.heap.size 5 v (bcells (((wordsL K n).take k).map G)) ∧ Grew w2 (.slice (some ⟨w.heap.size + 1, 0, none⟩) 0 0) wr v ∧ Ext w wr) (fun _ _ i _ => N - (intOf i).toNat)
    case atStart => exact ⟨0, by omega, rfl, hB0, Grew.refl _ _, hxw⟩
    case round =>
      obtain ⟨k, hk, rfl, hown, hgr, hxr⟩ := hrel
      by_cases hlt : k < N
      · have hlw : k < (wordsL K n).length := by have := HWL.out; simp [scells] at this; omega
        have hwc : wr.cell? ⟨g, k, none⟩ = some (.string (mkS (wordsL K n)[k])) := by
          have := (hgr.own hw (by intro j hj; simp [Value.ownBlock] at hj ⊢; omega)).cell k (by rw [HWL.out]; exact hlt)
          simpa [scells] using this
        obtain ⟨u, hu⟩ : ∃ u, u = (wordsL K n)[k] := ⟨_, rfl⟩
        rw [← hu] at hwc
        have hmem : u ∈ wordsL K n := by rw [hu]; exact List.getElem_mem _
        have htk : (wordsL K n).take (k + 1) = (wordsL K n).take k ++ [u] := by rw [hu]; exact List.take_succ_eq_append_getElem hlw
        have HT := Lib.hid (And.intro hmem htk)
        have HW := Lib.hid hw
        clear hu hmem htk hlw hw
        go_wp2_with fail
        refine (HG.out u _ HT.out.1 hxr).mono ?_
        rintro e w3 ⟨rfl, hx3⟩
        have hown3 := hown.ext hx3
        have hgr3 := hgr.ext hx3
        have hxr3 := hxr.trans hx3
        clear hown hgr hxr hx3 hwc
        have hl : (bcells (((wordsL K n).take k).map G)).length = k := by have := HWL.out; simp [bcells, scells] at this ⊢; omega
        have hl1 : (bcells (((wordsL K n).take k).map G)).length + 1 ≤ maxLen := by unfold maxLen; omega
        have hl2 : ((bcells (((wordsL K n).take k).map G)).length + 1) * 1 ≤ 140737488355328 := by omega
        clear hl
        go_wp2_with (at_builtin; refine wpList_append_one rfl (.tmp 41) (.tmp 45) 34 rfl 5 _ _ Try.underlying34 infoU8 rfl w.heap.size _ _ rfl (hown3.ext (Ext.alloc _ _)) w3.heap.size _ rfl (by simp; rfl) rfl hl1 hl2 w rfl (hxr3.trans (Ext.alloc _ _)) ?_; intro v' w4 hown4 hx4 hmv)
        have hgr4 := (hgr3.ext (Ext.alloc _ _)).step hmv
        go_roundw
        case rel => exact ⟨k + 1, by omega, by go_num, by rw [HT.out.2]; simpa [bcells] using hown4, hgr4, hx4⟩
        case measure => simp [intOf]; omega
      · have : k = N := by omega
        subst this
        have htk : (wordsL K n).take k = wordsL K n := List.take_of_length_le (by have := HWL.out; simp [scells] at this; omega)
        rw [htk] at hown
        clear htk
        have hcv := run_convert_own (P := Try.prog) (src := 34) (dst := 9) Try.underlying34 Try.underlying5 Try.underlying9 hown
        have d0 := hgr.cell c0 (by simp [Value.ownBlock])
        have d1 := hgr.cell c1 (by simp [Value.ownBlock])
        have d2 := hgr.cell c2 (by simp [Value.ownBlock])
        have g0 := (hgr.frozen (a := ⟨w.heap.size, 0, none⟩) (by simp; omega) (by simp [Value.ownBlock])).trans f0
        have g1 := (hgr.frozen (a := ⟨w.heap.size, 1, none⟩) (by simp; omega) (by simp [Value.ownBlock])).trans f1
        have g2 := (hgr.frozen (a := ⟨w.heap.size, 2, none⟩) (by simp; omega) (by simp [Value.ownBlock])).trans f2
        clear hgr c0 c1 c2 f0 f1 f2
        go_wp2
        refine bodyPost_ret (v := .tuple #[.agg #[.int .i64 K, .int .i64 n, .string (mkS ((wordsL K n).map G))], .bool true]) ?_ rfl ⟨rfl, ((hxr.setCell (Nat.le_refl _) _).setCell (Nat.le_refl _) _).setCell (Nat.le_refl _) _⟩
        simp [results, Try.results76, go_sem, d0, d1, d2, mkS]

theorem made_cf : ∀ args w, (callFunc 77 args).run Try.prog w = .ok (.enter 77 args) w := by
  intro args w
  kernel_rfl
theorem made_cf2 : ∀ args w, (callFunc 105 args).run Try.prog w = .ok (.enter 105 args) w := by
  intro args w
  kernel_rfl
end Go.Proofs.Ytdempmpljekehaa

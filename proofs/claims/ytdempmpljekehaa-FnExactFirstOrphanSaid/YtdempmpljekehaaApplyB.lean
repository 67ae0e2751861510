/- Contracts: the letter that a code gives, a code on a word: the program's. -/
import Derived.Test.YtdempmpljekehaaApplyA
namespace Go.Proofs.Ytdempmpljekehaa
open Go.RowKit Go.Cm

/-- a code that is right -/
structure CodeFit (K n : Nat) (o : ByteArray) : Prop where
  k2 : 2 ≤ K
  k3 : K ≤ 3
  n1 : 1 ≤ n
  n4 : n ≤ 4
  le : K ^ n ≤ 27
  size : o.size = K ^ n
  lets : areLet K o.data.toList = true

theorem codeFit_of {L W : Int} {o : ByteArray} (h : codeOk L W o = true) : ∃ K n : Nat, L = K ∧ W = n ∧ CodeFit K n o := by
  obtain ⟨K, n, h1, h2, a, b, c, d, e, f, g⟩ := codeOk_parts h
  exact ⟨K, n, h1, h2, ⟨a, b, c, d, e, f, g⟩⟩

theorem givesL_eq {K n : Nat} {o : ByteArray} (hf : CodeFit K n o) {u : List UInt8} (hl : u.length = n) (ha : areLet K u = true) : ∃ h : idxL K u < o.size, givesL K o u = o[idxL K u] := by
  have h1 := idxL_lt K u ha
  rw [hl, ← hf.size] at h1
  refine ⟨h1, ?_⟩
  unfold givesL
  rw [List.getD_eq_getElem?_getD, List.getElem?_eq_getElem (by simpa using h1)]
  rfl

set_option maxHeartbeats 400000 in
theorem impl_gives_any (K n : Nat) (o : ByteArray) (u : List UInt8) (w : World) (hf : CodeFit K n o) (hl : u.length = n) (ha : areLet K u = true) :
    Calls Try.prog 106 #[.agg #[.int .i64 K, .int .i64 n, .string o], .string (mkS u)] w fun e w' => e = .returned (.int .u8 ((givesL K o u).toNat : Int)) ∧ Ext w w' := by
  obtain ⟨hi, hg⟩ := givesL_eq hf hl ha
  have hk3 := hf.k3
  have hk2 := hf.k2
  have hn4 := hf.n4
  have ha' : areLet K (mkS u).data.toList = true := by rw [mkS_data]; exact ha
  have hsz : (mkS u).size ≤ 16 := by rw [mkS_size]; omega
  obtain ⟨x, hx⟩ : ∃ x, x = idxL K u := ⟨_, rfl⟩
  have hg' : ∃ h : x < o.size, givesL K o u = o[x] := by subst hx; exact ⟨hi, hg⟩
  obtain ⟨hxo, hgx⟩ := hg'
  have HX := Lib.hid hx
  have HA := Lib.hid ha'
  clear hg hi hl ha ha' hx
  go_enter Try.func106, Try.ntmps106
  go_wp2
  refine wp_region_inv (by kernel_rfl) [.known (.pointer (some ⟨w.heap.size, 2, none⟩)), .known (.string o), .known (.pointer (some ⟨w.heap.size, 0, none⟩)), .known (.int .i64 K), .known (.string (mkS u)), .known (.int .i64 x), .known (.int .u8 (o[x].toNat : Int)), .known (.int .u8 (o[x].toNat : Int))] rfl (by kernel_rfl) ?_ ?_
  · intro vs
    refine ⟨fun w' hx hj => ?_, fun w' hx hj => ?_, fun w' hx hj => ?_, fun w' hx hj => ?_, fun w' hx hj => ?_, fun w' hx hj => ?_, fun w' hx hj => ?_, fun w' hx hj => ?_, trivial⟩
    · clear hj
      go_simp
    · have c0 := Ext.cell_some hx (a := ⟨w.heap.size, 2, none⟩) (v := .string o) (by simp)
      clear hj
      go_simp
    · clear hj
      go_simp
    · have c0 := Ext.cell_some hx (a := ⟨w.heap.size, 0, none⟩) (v := .int .i64 K) (by simp)
      clear hj
      go_simp
    · clear hj
      go_simp
    · clear hj
      go_simp
      rw [HX.out, ← mkS_data u]
      exact (impl_indexOf_any K (mkS u) _ (by omega) hk3 hsz HA.out).mono fun _ _ ⟨h1, h2⟩ => ⟨h1, h2 ▸ Ext.refl _⟩
    · clear hj
      go_simp
    · clear hj
      go_simp
  · intro vs w1 hx1 hk
    clear hk
    go_simp
    go_wp2
    go_ret
    exact ⟨ret_int (k := .u8) (by rw [hgx]), (Ext.alloc _ _).trans hx1⟩

set_option maxRecDepth 100000 in
set_option maxHeartbeats 1000000 in
theorem impl_apply_any (K n : Nat) (o s : ByteArray) (w : World) (hf : CodeFit K n o) (hs : s.size ≤ 1048576) (ha : areLet K s.data.toList = true) :
    Calls Try.prog 97 #[.agg #[.int .i64 K, .int .i64 n, .string o], .string s] w fun e w' => e = .returned (.string (mkS (applyL K n o s.data.toList))) ∧ Ext w w' := by
  have hn1 := hf.n1
  have hn4 := hf.n4
  obtain ⟨M, hM⟩ : ∃ M, M = s.size + 1 - n := ⟨_, rfl⟩
  have hMs : M + n ≤ s.size + 1 ∨ M = 0 := by omega
  have hMl : s.size + 1 ≤ M + n := by omega
  have hB0 : Own ((w.alloc (.cells #[.int .i64 K, .int .i64 n, .string o] 26)).alloc (.cells #[] 5)) w.heap.size 5 (.slice (some ⟨w.heap.size + 1, 0, none⟩) 0 0) [] := by
    have h := Own.lit (w.alloc (.cells #[.int .i64 K, .int .i64 n, .string o] 26)) 5 [] (by simp)
    simp only [World.size_alloc, List.length_nil] at h
    exact h.mono (by omega)
  have HM := Lib.hid hM
  have HA := Lib.hid ha
  clear hM ha
  go_enter Try.func97, Try.ntmps97
  go_wp2
  go_loopw [5, 6] (fun v i wr => ∃ k : Nat, k ≤ M ∧ i = .int .i64 k ∧ Own wr w.heap.size 5 v (bcells (applyTo K n o s.data.toList k)) ∧ Grew ((w.alloc (.cells #[.int .i64 K, .int .i64 n, .string o] 26)).alloc (.cells #[] 5)) (.slice (some ⟨w.heap.size + 1, 0, none⟩) 0 0) wr v ∧ Ext w wr) (fun _ i _ => M - (intOf i).toNat)
  case atStart => exact ⟨0, by omega, rfl, by simpa [applyTo, bcells] using hB0, Grew.refl _ _, (Ext.alloc _ _).trans (Ext.alloc _ _)⟩
  case round =>
    obtain ⟨k, hk, rfl, hown, hgr, hx⟩ := hrel
    have c0 : wr.cell? ⟨w.heap.size, 0, none⟩ = some (.int .i64 K) := hgr.cell (by simp) (by simp [Value.ownBlock])
    have c1 : wr.cell? ⟨w.heap.size, 1, none⟩ = some (.int .i64 n) := hgr.cell (by simp) (by simp [Value.ownBlock])
    have c2 : wr.cell? ⟨w.heap.size, 2, none⟩ = some (.string o) := hgr.cell (by simp) (by simp [Value.ownBlock])
    by_cases hlt : k < M
    · have hkn : k + n ≤ s.size := by omega
      have hpl : (partL n k s.data.toList).length = n := partL_length (by simpa using hkn)
      have hpa := areLet_part n k HA.out
      have hex := extract_part s k n
      have HP := Lib.hid (And.intro hpl hpa)
      have hl1 : (bcells (applyTo K n o s.data.toList k)).length + 1 ≤ maxLen := by simp only [bcells, List.length_map, applyTo_length]; unfold maxLen; omega
      have hl2 : ((bcells (applyTo K n o s.data.toList k)).length + 1) * 1 ≤ 140737488355328 := by simp only [bcells, List.length_map, applyTo_length]; omega
      clear hpl hpa
      go_wp2
      refine wp_region_tail (by kernel_rfl) 11 [.known u5, .known (.agg #[.int .i64 K, .int .i64 n, .string o]), .known (.string s), .known (.int .i64 k), .known (.int .i64 k), .known (.pointer (some ⟨w.heap.size, 1, none⟩)), .known (.int .i64 n), .known (.int .i64 (k + n)), .known (.string (mkS (partL n k s.data.toList))), .known (.int .u8 ((givesL K o (partL n k s.data.toList)).toNat : Int)), .box (.int .u8 ((givesL K o (partL n k s.data.toList)).toNat : Int))] rfl (by decide) (by kernel_rfl) (by kernel_rfl) ?_ ?_
      · intro vs
        refine ⟨fun w' hx hj => ?_, fun w' hx hj => ?_, fun w' hx hj => ?_, fun w' hx hj => ?_, fun w' hx hj => ?_, fun w' hx hj => ?_, fun w' hx hj => ?_, fun w' hx hj => ?_, fun w' hx hj => ?_, fun w' hx hj => ?_, fun w' hx hj => ?_, trivial⟩
        · clear hj
          go_simp
        · have c0 := Ext.cell_some hx c0
          have c1 := Ext.cell_some hx c1
          have c2 := Ext.cell_some hx c2
          clear hj
          go_simp
        · clear hj
          go_simp
        · clear hj
          go_simp
        · clear hj
          go_simp
        · clear hj
          go_simp
        · have c0 := Ext.cell_some hx c1
          clear hj
          go_simp
        · have e1 : IntKind.i64.wrap ((k : Int) + (n : Int)) = k + n := IntWalk.i64_in _ (by omega)
          clear hj
          go_simp
        · have p1 : (0 : Int) ≤ (k : Int) + n := by omega
          have p2 : (k : Int) + n ≤ s.size := by omega
          have p3 : (k : Int) ≤ k + n := by omega
          have p4 : ((k : Int) + n).toNat = k + n := by omega
          clear hj
          go_simp
        · clear hj
          go_simp
          exact impl_gives_any K n o _ _ hf HP.out.1 HP.out.2
        · clear hj
          go_simp
          exact boxOf_new _ _ _
      · intro vs w3 hx3 hk
        have k10 : BoxOf (.int .u8 ((givesL K o (partL n k s.data.toList)).toNat : Int)) (vs 10) w3 := hk 10 _ rfl
        clear hk
        go_simp
        obtain ⟨bx, hbx, hcx⟩ := k10
        rw [hbx]
        have hown3 := hown.ext hx3
        have hgr3 := hgr.ext hx3
        have hx03 := hx.trans hx3
        clear hbx hown hgr hx hx3 hex c0 c1 c2
        go_wp2_with (at_builtin; refine wpList_append_one rfl (.tmp 17) (.tmp 27) 34 rfl 5 _ _ Try.underlying34 infoU8 rfl w.heap.size _ _ rfl hown3 bx _ rfl hcx rfl hl1 hl2 w rfl hx03 ?_; intro v' w4 hown4 hx4 hmv)
        have hgr4 := hgr3.step hmv
        go_roundw
        case rel => exact ⟨k + 1, by omega, by go_num, by rw [applyTo_succ]; simpa [bcells] using hown4, hgr4, hx4⟩
        case measure => simp [intOf]; omega
    · have : k = M := by omega
      subst this
      have hto : applyTo K n o s.data.toList k = applyL K n o s.data.toList := by unfold applyTo applyL; rw [HM.out]; simp
      rw [hto] at hown
      clear hto
      have hcv := run_convert_own (P := Try.prog) (src := 34) (dst := 9) Try.underlying34 Try.underlying5 Try.underlying9 hown
      clear hgr
      go_wp2
      go_ret
      exact ⟨rfl, hx⟩
end Go.Proofs.Ytdempmpljekehaa

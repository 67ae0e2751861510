/- Contracts: a code on a word, by the reference; ApplyCode of both. -/
import Derived.Test.YtgaeeibcfoppbaaGreatDoorPkC
namespace Go.Proofs.YtgaeeibcfoppbaaGreatDoor
open Go.RowKit Go.Cm

set_option maxRecDepth 100000 in
set_option maxHeartbeats 1000000 in
theorem spec_l11Apply_any (K n : Nat) (o s : ByteArray) (w : World) (hf : CodeFit K n o) (hs : s.size ≤ 1048576) (ha : areLet K s.data.toList = true) :
    Calls Tryz.prog 33 #[.agg #[.int .i64 K, .int .i64 n, .string o], .string s] w fun e w' => e = .returned (.string (mkS (applyL K n o s.data.toList))) ∧ Ext w w' := by
  have hn1 := hf.n1
  have hn4 := hf.n4
  obtain ⟨M, hM⟩ : ∃ M, M = s.size + 1 - n := ⟨_, rfl⟩
  have hMs : M + n ≤ s.size + 1 ∨ M = 0 := by omega
  have hMl : s.size + 1 ≤ M + n := by omega
  have HM := Lib.hid hM
  have HA := Lib.hid ha
  clear hM ha
  go_enter Tryz.func33, Tryz.ntmps33
  go_wp2
  go_loopw [5, 6] (fun v i wr => ∃ k : Nat, k ≤ M ∧ i = .int .i64 k ∧ v = .string (mkS (applyTo K n o s.data.toList k)) ∧ Ext (w.alloc (.cells #[.int .i64 K, .int .i64 n, .string o] 25)) wr) (fun _ i _ => M - (intOf i).toNat)
  case atStart => exact ⟨0, by omega, rfl, by simp [applyTo, mkS], Ext.refl _⟩
  case round =>
    obtain ⟨k, hk, rfl, rfl, hx⟩ := hrel
    have c0 : wr.cell? ⟨w.heap.size, 0, none⟩ = some (.int .i64 K) := hx.cell_some (by simp)
    have c1 : wr.cell? ⟨w.heap.size, 1, none⟩ = some (.int .i64 n) := hx.cell_some (by simp)
    have c2 : wr.cell? ⟨w.heap.size, 2, none⟩ = some (.string o) := hx.cell_some (by simp)
    by_cases hlt : k < M
    · have hkn : k + n ≤ s.size := by omega
      have hpl : (partL n k s.data.toList).length = n := partL_length (by simpa using hkn)
      have hpa := areLet_part n k HA.out
      have hex := extract_part s k n
      have HP := Lib.hid (And.intro hpl hpa)
      obtain ⟨t, ht⟩ : ∃ t, t = applyTo K n o s.data.toList k := ⟨_, rfl⟩
      have hts := applyTo_succ K n o s.data.toList k
      have htl := applyTo_length K n o s.data.toList k
      rw [← ht] at hts htl ⊢
      have hcat := mkS_append t [givesL K o (partL n k s.data.toList)]
      have hsz : (mkS t).size + (mkS [givesL K o (partL n k s.data.toList)]).size ≤ 1048577 := by rw [mkS_size, mkS_size]; simp; omega
      have HT := Lib.hid hts
      clear hpl hpa ht hts htl
      go_wp2
      refine wp_region_inv (by kernel_rfl) [.known (.string (mkS t)), .known (.agg #[.int .i64 K, .int .i64 n, .string o]), .known (.string s), .known (.int .i64 k), .known (.int .i64 k), .known (.pointer (some ⟨w.heap.size, 1, none⟩)), .known (.int .i64 n), .known (.int .i64 (k + n)), .known (.string (mkS (partL n k s.data.toList))), .known (.string (mkS [givesL K o (partL n k s.data.toList)])), .known (.string (mkS (t ++ [givesL K o (partL n k s.data.toList)]))), .known (.string (mkS (t ++ [givesL K o (partL n k s.data.toList)])))] rfl (by kernel_rfl) ?_ ?_
      · intro vs
        refine ⟨fun w' hx hj => ?_, fun w' hx hj => ?_, fun w' hx hj => ?_, fun w' hx hj => ?_, fun w' hx hj => ?_, fun w' hx hj => ?_, fun w' hx hj => ?_, fun w' hx hj => ?_, fun w' hx hj => ?_, fun w' hx hj => ?_, fun w' hx hj => ?_, fun w' hx hj => ?_, trivial⟩
        · clear hj
          go_simp
        · have c0 := Ext.cell_some hx c0
          have c1 := Ext.cell_some hx c1
          have c2 := Ext.cell_some hx c2
          clear hj
          go_simp
        · clear hj
          go_simp
        · clear hj
          go_simp
        · clear hj
          go_simp
        · clear hj
          go_simp
        · have c0 := Ext.cell_some hx c1
          clear hj
          go_simp
        · have e1 : IntKind.i64.wrap ((k : Int) + (n : Int)) = k + n := IntWalk.i64_in _ (by omega)
          clear hj
          go_simp
        · have p1 : (0 : Int) ≤ (k : Int) + n := by omega
          have p2 : (k : Int) + n ≤ s.size := by omega
          have p3 : (k : Int) ≤ k + n := by omega
          have p4 : ((k : Int) + n).toNat = k + n := by omega
          clear hj
          go_simp
        · clear hj
          go_simp
          exact spec_l11Letter_any K n o _ _ hf HP.out.1 HP.out.2
        · have p1 : ¬ 9223372036854775807 < (mkS t).size + (mkS [givesL K o (partL n k s.data.toList)]).size := by omega
          clear hj
          go_simp
        · clear hj
          go_simp
      · intro vs w3 hx3 hk
        clear hk
        go_simp
        clear hex hcat
        go_wp2
        go_roundw
        case rel => exact ⟨k + 1, by omega, by go_num, by rw [HT.out], hx.trans hx3⟩
        case measure => simp [intOf]; omega
    · have : k = M := by omega
      subst this
      have hto : applyTo K n o s.data.toList k = applyL K n o s.data.toList := by unfold applyTo applyL; rw [HM.out]; simp
      rw [hto]
      clear hto
      go_wp2
      go_ret
      exact ⟨rfl, (Ext.alloc _ _).trans hx⟩

set_option maxHeartbeats 1000000 in
theorem impl_ApplyCode_no (L W : Int) (o s : ByteArray) (w : World) (ho : o.size ≤ maxLen) (hs : s.size ≤ maxLen) (h : (codeOk L W o && wordOk L s) = false) :
    Calls Tryz.prog 9 #[.agg #[.int .i64 L, .int .i64 W, .string o], .string s] w fun e w' => e = .returned (.tuple #[.string ⟨#[]⟩, .bool false]) ∧ Ext w w' := by
  cases hc : codeOk L W o with
  | false =>
    clear h
    go_enter Tryz.func9, Tryz.ntmps9
    go_wp2_with fail
    refine (impl_IsCode_any _ _ _ _ ho).mono ?_
    rintro e w1 ⟨rfl, hx⟩
    rw [hc]
    go_wp2
    go_ret2
    exact ⟨rfl, (Ext.alloc _ _).trans hx⟩
  | true =>
    have hw : wordOk L s = false := by simpa [hc] using h
    clear h
    go_enter Tryz.func9, Tryz.ntmps9
    go_wp2_with fail
    refine (impl_IsCode_any _ _ _ _ ho).mono ?_
    rintro e w1 ⟨rfl, hx⟩
    rw [hc]
    have c0 : w1.cell? ⟨w.heap.size, 0, none⟩ = some (.int .i64 L) := hx.cell_some (by simp)
    go_wp2_with fail
    refine (impl_IsWord_any _ _ _ hs).mono ?_
    rintro e w2 ⟨rfl, rfl⟩
    rw [hw]
    go_wp2
    go_ret2
    exact ⟨rfl, (Ext.alloc _ _).trans hx⟩

set_option maxHeartbeats 1000000 in
theorem spec_ApplyCode_no (L W : Int) (o s : ByteArray) (w : World) (ho : o.size ≤ maxLen) (hs : s.size ≤ maxLen) (h : (codeOk L W o && wordOk L s) = false) :
    Calls Tryz.prog 10 #[.agg #[.int .i64 L, .int .i64 W, .string o], .string s] w fun e w' => e = .returned (.tuple #[.string ⟨#[]⟩, .bool false]) ∧ Ext w w' := by
  cases hc : codeOk L W o with
  | false =>
    clear h
    go_enter Tryz.func10, Tryz.ntmps10
    go_wp2_with fail
    refine (spec_IsCode_any _ _ _ _ ho).mono ?_
    rintro e w1 ⟨rfl, hx⟩
    rw [hc]
    go_wp2
    go_ret2
    exact ⟨rfl, (Ext.alloc _ _).trans hx⟩
  | true =>
    have hw : wordOk L s = false := by simpa [hc] using h
    clear h
    go_enter Tryz.func10, Tryz.ntmps10
    go_wp2_with fail
    refine (spec_IsCode_any _ _ _ _ ho).mono ?_
    rintro e w1 ⟨rfl, hx⟩
    rw [hc]
    have c0 : w1.cell? ⟨w.heap.size, 0, none⟩ = some (.int .i64 L) := hx.cell_some (by simp)
    go_wp2_with fail
    refine (spec_IsWord_any _ _ _ hs).mono ?_
    rintro e w2 ⟨rfl, rfl⟩
    rw [hw]
    go_wp2
    go_ret2
    exact ⟨rfl, (Ext.alloc _ _).trans hx⟩

theorem wordOk_parts {K : Nat} {s : ByteArray} (h : wordOk K s = true) : s.size ≤ 16 ∧ areLet K s.data.toList = true := by
  unfold wordOk at h
  simp only [Bool.and_eq_true, decide_eq_true_eq] at h
  exact h.2

set_option maxHeartbeats 1000000 in
theorem impl_ApplyCode_yes (K n : Nat) (o s : ByteArray) (w : World) (hc : codeOk K n o = true) (hf : CodeFit K n o) (hw : wordOk K s = true) :
    Calls Tryz.prog 9 #[.agg #[.int .i64 K, .int .i64 n, .string o], .string s] w fun e w' => e = .returned (.tuple #[.string (mkS (applyL K n o s.data.toList)), .bool true]) ∧ Ext w w' := by
  have ho : o.size ≤ maxLen := by have := hf.size; have := hf.le; unfold maxLen; omega
  have hs := wordOk_parts hw
  have hsm : s.size ≤ maxLen := by unfold maxLen; omega
  have HS := Lib.hid hs
  clear hs
  go_enter Tryz.func9, Tryz.ntmps9
  go_wp2_with fail
  refine (impl_IsCode_any _ _ _ _ ho).mono ?_
  rintro e w1 ⟨rfl, hx⟩
  rw [hc]
  have c0 : w1.cell? ⟨w.heap.size, 0, none⟩ = some (.int .i64 K) := hx.cell_some (by simp)
  have c1 : w1.cell? ⟨w.heap.size, 1, none⟩ = some (.int .i64 n) := hx.cell_some (by simp)
  have c2 : w1.cell? ⟨w.heap.size, 2, none⟩ = some (.string o) := hx.cell_some (by simp)
  go_wp2_with fail
  refine (impl_IsWord_any _ _ _ hsm).mono ?_
  rintro e w2 ⟨rfl, rfl⟩
  rw [hw]
  go_wp2_with fail
  refine (impl_apply_any K n o s _ hf (by have := HS.out.1; omega) HS.out.2).mono ?_
  rintro e w3 ⟨rfl, hx3⟩
  have hx13 := ((Ext.alloc _ _).trans hx).trans hx3
  clear hx hx3 c0 c1 c2
  go_wp2
  go_ret2
  exact ⟨rfl, hx13⟩

set_option maxHeartbeats 1000000 in
theorem spec_ApplyCode_yes (K n : Nat) (o s : ByteArray) (w : World) (hc : codeOk K n o = true) (hf : CodeFit K n o) (hw : wordOk K s = true) :
    Calls Tryz.prog 10 #[.agg #[.int .i64 K, .int .i64 n, .string o], .string s] w fun e w' => e = .returned (.tuple #[.string (mkS (applyL K n o s.data.toList)), .bool true]) ∧ Ext w w' := by
  have ho : o.size ≤ maxLen := by have := hf.size; have := hf.le; unfold maxLen; omega
  have hs := wordOk_parts hw
  have hsm : s.size ≤ maxLen := by unfold maxLen; omega
  have HS := Lib.hid hs
  clear hs
  go_enter Tryz.func10, Tryz.ntmps10
  go_wp2_with fail
  refine (spec_IsCode_any _ _ _ _ ho).mono ?_
  rintro e w1 ⟨rfl, hx⟩
  rw [hc]
  have c0 : w1.cell? ⟨w.heap.size, 0, none⟩ = some (.int .i64 K) := hx.cell_some (by simp)
  have c1 : w1.cell? ⟨w.heap.size, 1, none⟩ = some (.int .i64 n) := hx.cell_some (by simp)
  have c2 : w1.cell? ⟨w.heap.size, 2, none⟩ = some (.string o) := hx.cell_some (by simp)
  go_wp2_with fail
  refine (spec_IsWord_any _ _ _ hsm).mono ?_
  rintro e w2 ⟨rfl, rfl⟩
  rw [hw]
  go_wp2_with fail
  refine (spec_l11Apply_any K n o s _ hf (by have := HS.out.1; omega) HS.out.2).mono ?_
  rintro e w3 ⟨rfl, hx3⟩
  have hx13 := ((Ext.alloc _ _).trans hx).trans hx3
  clear hx hx3 c0 c1 c2
  go_wp2
  go_ret2
  exact ⟨rfl, hx13⟩
end Go.Proofs.YtgaeeibcfoppbaaGreatDoor

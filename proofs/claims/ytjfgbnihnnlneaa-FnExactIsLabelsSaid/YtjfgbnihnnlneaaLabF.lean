/- Contracts: arcs in order, by the reference; small numbers of letters. -/
import Derived.Test.YtjfgbnihnnlneaaLabE
namespace Go.Proofs.Ytjfgbnihnnlneaa
open Go.RowKit

theorem cmpI_neg (x y : Int) : (cmpI x y < 0) ↔ x < y := by
  unfold cmpI
  by_cases h : x < y
  · rw [if_pos h]; omega
  · rw [if_neg h]
    by_cases h2 : y < x
    · rw [if_pos h2]; omega
    · rw [if_neg h2]; omega
theorem cmpI_zero (x y : Int) : cmpI x y = 0 ↔ x = y := by
  unfold cmpI
  by_cases h : x < y
  · rw [if_pos h]; omega
  · rw [if_neg h]
    by_cases h2 : y < x
    · rw [if_pos h2]; omega
    · rw [if_neg h2]; omega
theorem cmpA_first {x y z x' y' z' : Int} (h : ¬ x = x') : cmpA (x, y, z) (x', y', z') = cmpI x x' := by
  unfold cmpA; simp only [orL]
  rw [if_pos (fun e => h ((cmpI_zero x x').1 e))]
theorem cmpA_second {x y z y' z' : Int} (h : ¬ z = z') : cmpA (x, y, z) (x, y', z') = cmpI z z' := by
  unfold cmpA; simp only [orL]
  rw [if_neg (by rw [(cmpI_zero x x).2 rfl]; simp), if_pos (fun e => h ((cmpI_zero z z').1 e))]
theorem cmpA_third {x y z y' : Int} : cmpA (x, y, z) (x, y', z) = cmpI y y' := by
  unfold cmpA; simp only [orL]
  rw [if_neg (by rw [(cmpI_zero x x).2 rfl]; simp), if_neg (by rw [(cmpI_zero z z).2 rfl]; simp)]
  by_cases h : cmpI y y' = 0
  · rw [if_neg (by simp [h]), h]
  · rw [if_pos h]

set_option maxHeartbeats 1000000 in
theorem l14Before_any (x y z x' y' z' : Int) (w : World) :
    Calls Try.prog 17 #[.agg #[.int .i64 x, .int .i64 y, .int .i64 z], .agg #[.int .i64 x', .int .i64 y', .int .i64 z']] w fun e w' => e = .returned (.bool (decide (cmpA (x, y, z) (x', y', z') < 0))) ∧ Ext w w' := by
  by_cases h1 : x = x'
  · subst h1
    by_cases h2 : z = z'
    · subst h2
      have HV := Lib.hid (show decide (cmpA (x, y, z) (x, y', z) < 0) = decide (y < y') by rw [cmpA_third, Bool.eq_iff_iff]; simp [cmpI_neg])
      go_enter Try.func17, Try.ntmps17
      go_wp2
      go_ret
      exact ⟨lab_bool HV.out.symm, (Ext.alloc _ _).trans (Ext.alloc _ _)⟩
    · have hne : (z != z') = true := by simpa using h2
      have HV := Lib.hid (show decide (cmpA (x, y, z) (x, y', z') < 0) = decide (z < z') by rw [cmpA_second h2, Bool.eq_iff_iff]; simp [cmpI_neg])
      go_enter Try.func17, Try.ntmps17
      go_wp2
      go_ret
      exact ⟨lab_bool HV.out.symm, (Ext.alloc _ _).trans (Ext.alloc _ _)⟩
  · have hne : (x != x') = true := by simpa using h1
    have HV := Lib.hid (show decide (cmpA (x, y, z) (x', y', z') < 0) = decide (x < x') by rw [cmpA_first h1, Bool.eq_iff_iff]; simp [cmpI_neg])
    go_enter Try.func17, Try.ntmps17
    go_wp2
    go_ret
    exact ⟨lab_bool HV.out.symm, (Ext.alloc _ _).trans (Ext.alloc _ _)⟩

theorem isLetters_any (k : Int) (w : World) : Calls Try.prog 18 #[.int .i64 k] w fun e w' => e = .returned (.bool (decide (1 ≤ k) && decide (k ≤ 3))) ∧ w = w' := by
  by_cases h : 1 ≤ k
  · go_enter Try.func18, Try.ntmps18
    go_wp2
    go_ret
    exact ⟨lab_bool (by simp [h]), rfl⟩
  · have h' : k < 1 := by omega
    go_enter Try.func18, Try.ntmps18
    go_wp2
    go_ret
    exact ⟨lab_bool (by simp; omega), rfl⟩
theorem l1In_lab (x lo hi : Int) (w : World) :
    Calls Try.prog 16 #[.int .i64 x, .int .i64 lo, .int .i64 hi] w fun e w' => e = .returned (.bool (decide (lo ≤ x) && decide (x ≤ hi))) ∧ w = w' := by
  by_cases h : lo ≤ x
  · go_enter Try.func16, Try.ntmps16
    go_wp2
    go_ret
    exact ⟨lab_bool (by simp [h]), rfl⟩
  · have h' : x < lo := by omega
    go_enter Try.func16, Try.ntmps16
    go_wp2
    go_ret
    exact ⟨lab_bool (by simp; omega), rfl⟩
end Go.Proofs.Ytjfgbnihnnlneaa

/- What the law of growth asks: each function's answer for any matrix, and what the answers have to do with each other. -/
import Derived.Test.YtdngkfedkgiioaaDoorPkB
import Derived.Test.YtdngkfedkgiioaaDoorTrnA
import Derived.Test.YtdngkfedkgiioaaDoorMatC
import Derived.Test.YtdngkfedkgiioaaDoorGroA
import Derived.Test.YtdngkfedkgiioaaDoorGrowA
import Derived.Test.YtdngkfedkgiioaaDoorPowB
namespace Go.Mx
def lowV (m : List (List Int)) : Int := if isMat m = true then minTo (rowS m) m.length else 0
def highV (m : List (List Int)) : Int := if isMat m = true then maxTo (rowS m) m.length else 0
theorem isSm_mat {T : List (List Int)} (h : isSm T = true) : isMat T = true := by
  cases hq : isMat T with
  | true => rfl
  | false => rw [isSm_noMat hq] at h; cases h
end Go.Mx
namespace Go.Proofs.YtdngkfedkgiioaaDoor
open Go.RowKit Go.Mx

theorem impl_RowBounds_any (v : Value) (m : List (List Int)) (w : World) (h : ReadsRows w v m) :
    Calls Tryd.prog 33 #[v] w fun e w' => e = .returned (.tuple #[.int .i64 (lowV m), .int .i64 (highV m)]) ∧ Ext w w' := by
  unfold lowV highV
  cases hm : isMat m with
  | true => rw [if_pos rfl, if_pos rfl]; exact impl_RowBounds_yes v m w h hm
  | false => rw [if_neg (by simp), if_neg (by simp)]; exact impl_RowBounds_no v m w h hm
theorem spec_RowBounds_any (v : Value) (m : List (List Int)) (w : World) (h : ReadsRows w v m) :
    Calls Tryd.prog 34 #[v] w fun e w' => e = .returned (.tuple #[.int .i64 (lowV m), .int .i64 (highV m)]) ∧ Ext w w' := by
  unfold lowV highV
  cases hm : isMat m with
  | true => rw [if_pos rfl, if_pos rfl]; exact spec_RowBounds_yes v m w h hm
  | false => rw [if_neg (by simp), if_neg (by simp)]; exact spec_RowBounds_no v m w h hm

theorem floor_small {m : List (List Int)} {d : Int} (h : ¬ floorV m d < 0) : isSm m = true ∧ 1 ≤ d ∧ d ≤ 100 ∧ floorV m d = floorG m d := by
  unfold floorV at h ⊢
  split at h
  · next hc => exact ⟨hc.1, hc.2.1, hc.2.2, if_pos hc⟩
  · omega
theorem minTo_le {m : List (List Int)} (h : Sm m) : minTo (rowS m) m.length = minFrom (rowS m) m.length ∧ maxTo (rowS m) m.length = maxFrom (rowS m) m.length := by
  have := h.one
  unfold minFrom maxFrom
  rw [if_neg (by omega), if_neg (by omega)]
  exact ⟨rfl, rfl⟩
/-- what the law asks where there is a growth -/
theorem growth_facts {T : List (List Int)} {d q : Int} (hq : q = floorV T d) (h : ¬ q < 0) :
    (0 ≤ q ∧ q ≤ 3600 ∧ 1 ≤ d ∧ d ≤ 100) ∧ isMat T = true ∧ below? T q d = false ∧ (q + 1 ≤ 3600 → below? T (q + 1) d = true) ∧ (lowV T * d ≤ q ∧ q ≤ highV T * d ∧ 0 ≤ lowV T * d ∧ highV T * d ≤ 3600) ∧ floorV (turnM T) d = q ∧
    (∀ p, powO T 2 = some p → isSm p = true → ∃ r, floorV p d = r ∧ (0 ≤ r ∧ r ≤ 3600) ∧ ¬ ((r + 1) * d ≤ q * q) ∧ ¬ ((q + 1) * (q + 1) ≤ r * d) ∧ (0 ≤ (r + 1) * d ∧ (r + 1) * d ≤ 360100) ∧ (0 ≤ r * d ∧ r * d ≤ 360000) ∧ (0 ≤ q * q ∧ q * q ≤ 12960000) ∧ (0 ≤ (q + 1) * (q + 1) ∧ (q + 1) * (q + 1) ≤ 12967201)) ∧
    lightV T = decide (floorV T 100 ≤ 100) := by
  rw [hq] at h
  obtain ⟨hsm, hd1, hd2, hfl⟩ := floor_small h
  rw [hfl] at hq
  subst hq
  have hS := Sm.of hsm
  have hmt := isSm_mat hsm
  obtain ⟨h0, h36, hn, hy⟩ := hS.floor hd1 hd2
  have hb := fun q => belowB_iff hS.four hS.nine (q := q) (d := d) (by omega)
  have hl := floor_low hS hd1 hd2
  have hh := floor_high hS hd1 hd2
  obtain ⟨e1, e2⟩ := minTo_le hS
  have hlow : lowV T = minFrom (rowS T) T.length := by unfold lowV; rw [if_pos hmt, e1]
  have hhigh : highV T = maxFrom (rowS T) T.length := by unfold highV; rw [if_pos hmt, e2]
  have hone := hS.one
  have hr0 : 0 ≤ minFrom (rowS T) T.length := by
    obtain ⟨i, hi, hmin⟩ := exists_min (rowS T) T.length hone
    have key : ∀ k, k + 1 ≤ T.length → 0 ≤ minTo (rowS T) (k + 1) := by
      intro k
      induction k with
      | zero => intro hk; have := (hS.rowS (i := 0) (by omega)).1; simp only [minTo]; omega
      | succ k ih => intro hk; have := ih (by omega); have := (hS.rowS (i := k + 1) (by omega)).1; rw [minTo]; omega
    obtain ⟨k, hk⟩ : ∃ k, T.length = k + 1 := ⟨T.length - 1, by omega⟩
    unfold minFrom
    rw [if_neg (by omega), hk]
    exact key k (by omega)
  have hr36 : maxFrom (rowS T) T.length ≤ 36 := by
    have key : ∀ k, k + 1 ≤ T.length → maxTo (rowS T) (k + 1) ≤ 36 := by
      intro k
      induction k with
      | zero => intro hk; have := (hS.rowS (i := 0) (by omega)).2; simp only [maxTo]; omega
      | succ k ih => intro hk; have := ih (by omega); have := (hS.rowS (i := k + 1) (by omega)).2; rw [maxTo]; omega
    obtain ⟨k, hk⟩ : ∃ k, T.length = k + 1 := ⟨T.length - 1, by omega⟩
    unfold maxFrom
    rw [if_neg (by omega), hk]
    exact key k (by omega)
  refine ⟨⟨h0, by omega, hd1, hd2⟩, hmt, ?_, fun hq1 => ?_, ?_, ?_, fun p hp hps => ?_, ?_⟩
  · unfold below?
    have : belowB T (floorG T d) d = false := by
      rw [Bool.eq_false_iff]
      exact fun h => hn ((hb _).1 h)
    rw [this]; simp
  · unfold below?
    rw [hsm, (hb _).2 hy, decide_eq_true (by omega), decide_eq_true (by omega)]; rfl
  · rw [hlow, hhigh]
    refine ⟨hl, hh, Int.mul_nonneg hr0 (by omega), ?_⟩
    have a1 := Int.mul_le_mul_of_nonneg_right hr36 (show 0 ≤ d by omega)
    omega
  · rw [floorV_yes (isSm_turn hsm) hd1 hd2, floorG_turn hS.four]
  · have hpm : powM T 2 = some p := by
      have := powO_yes (N := 2) hmt (by omega)
      rw [← this]; exact hp
    have hsq := powM_sq hpm
    have hPS := Sm.of hps
    obtain ⟨r0, r36, -, -⟩ := hPS.floor hd1 hd2
    have hf := floor_square hS hPS hsq hd1 hd2
    refine ⟨floorG p d, floorV_yes hps hd1 hd2, ⟨r0, by omega⟩, hf.1, hf.2, ?_, ?_, ?_, ?_⟩
    · have := mul_bd (x := floorG p d + 1) (y := d) (a := 3601) (b := 100) (by omega) (by omega) (by omega) hd2
      have := Int.mul_nonneg (show 0 ≤ floorG p d + 1 by omega) (show 0 ≤ d by omega)
      omega
    · have := mul_bd (x := floorG p d) (y := d) (a := 3600) (b := 100) (by omega) (by omega) (by omega) hd2
      have := Int.mul_nonneg r0 (show 0 ≤ d by omega)
      omega
    · have := mul_bd (x := floorG T d) (y := floorG T d) (a := 3600) (b := 3600) (by omega) (by omega) (by omega) (by omega)
      have := Int.mul_nonneg h0 h0
      omega
    · have := mul_bd (x := floorG T d + 1) (y := floorG T d + 1) (a := 3601) (b := 3601) (by omega) (by omega) (by omega) (by omega)
      have := Int.mul_nonneg (show 0 ≤ floorG T d + 1 by omega) (show 0 ≤ floorG T d + 1 by omega)
      omega
  · unfold lightV
    rw [hsm, Bool.true_and, light_floor hsm, floorV_yes hsm (by omega) (by omega)]
end Go.Proofs.YtdngkfedkgiioaaDoor

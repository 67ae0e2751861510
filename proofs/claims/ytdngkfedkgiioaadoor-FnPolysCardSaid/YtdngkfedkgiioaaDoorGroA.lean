/- Contracts: the growth as a text, by the program and by the reference. -/
import Derived.Test.YtdngkfedkgiioaaDoorFloorA
import Derived.Test.YtdngkfedkgiioaaDoorPkP
namespace Go.Mx
theorem halve_bd {f : Int → Bool} : ∀ (k : Nat) (low high : Int), low ≤ high → low ≤ halve f k low high ∧ halve f k low high ≤ high
  | 0, low, high, h => ⟨Int.le_refl _, h⟩
  | k + 1, low, high, h => by
    simp only [halve]
    split
    · split
      · have := halve_bd (f := f) k low ((low + high) / 2) (by omega)
        omega
      · have := halve_bd (f := f) k ((low + high) / 2) high (by omega)
        omega
    · exact ⟨Int.le_refl _, h⟩
end Go.Mx
namespace Go.Proofs.YtdngkfedkgiioaaDoor
open Go.RowKit Go.Cm Go.Mx

theorem floorV_bd (m : List (List Int)) (d : Int) : floorV m d = -1 ∨ ((0 ≤ floorV m d ∧ floorV m d ≤ 3601) ∧ 1 ≤ d ∧ d ≤ 100) := by
  unfold floorV
  by_cases h : isSm m = true ∧ 1 ≤ d ∧ d ≤ 100
  · right
    rw [if_pos h]
    have := halve_bd (f := fun q => belowB m q d) 4000 0 (36 * d + 1) (by omega)
    unfold floorG
    omega
  · left
    rw [if_neg h]
/-- the growth's text -/
def growT (m : List (List Int)) (d : Int) : List UInt8 := if floorV m d < 0 then [] else Lib.itoa (floorV m d) ++ (47 :: Lib.itoa d)

set_option maxHeartbeats 1000000 in
theorem impl_GrowthText_any (v : Value) (m : List (List Int)) (d : Int) (w : World) (h : ReadsRows w v m) (ht : TabC w):
    Calls Tryd.prog 40 #[v, .int .i64 d] w fun e w' => e = .returned (.string (mkS (growT m d))) ∧ Ext w w' := by
  have HC := Lib.hid (impl_FloorOfGrowth_any v m d w h)
  have hb := floorV_bd m d
  have hgt : growT m d = if floorV m d < 0 then [] else Lib.itoa (floorV m d) ++ (47 :: Lib.itoa d) := rfl
  obtain ⟨q, hq⟩ : ∃ q, q = floorV m d := ⟨_, rfl⟩
  rw [← hq] at HC hb hgt
  obtain ⟨g, hg⟩ : ∃ g, g = growT m d := ⟨_, rfl⟩
  rw [← hg] at hgt ⊢
  clear hq hg h
  by_cases hneg : q < 0
  · rw [if_pos hneg] at hgt
    subst hgt
    go_enter Tryd.func40, Tryd.ntmps40
    go_wp2_with fail
    with_reducible refine HC.out.mono ?_
    rintro e w1 ⟨rfl, hx⟩
    go_wp2
    go_ret
    exact ⟨rfl, hx⟩
  · rw [if_neg hneg] at hgt
    have hd1 : 1 ≤ d := by omega
    have hd2 : d ≤ 100 := by omega
    have hq1 : q ≤ 3601 := by omega
    have hf1 := fun w ht => impl_FormatInt_any q w (by omega) (by omega) ht
    have hf2 := fun w ht => impl_FormatInt_any d w (by omega) (by omega) ht
    have hl1 := itoa_len (z := q) (by omega) (by omega)
    have hl2 := itoa_len (z := d) (by omega) (by omega)
    have hz1 : (mkS (Lib.itoa q)).size ≤ 21 := by rw [mkS_size]; exact hl1
    have hz2 : (mkS (Lib.itoa d)).size ≤ 21 := by rw [mkS_size]; exact hl2
    have hsl : (⟨#[47]⟩ : ByteArray).size = 1 := rfl
    have hc1 : mkS (Lib.itoa q) ++ ⟨#[47]⟩ = mkS (Lib.itoa q ++ [47]) := by rw [show (⟨#[47]⟩ : ByteArray) = mkS [47] from rfl, mkS_append]
    have hc2 : mkS (Lib.itoa q ++ [47]) ++ mkS (Lib.itoa d) = mkS g := by rw [mkS_append, hgt]; simp
    have hz3 : (mkS (Lib.itoa q ++ [47])).size ≤ 22 := by rw [mkS_size, List.length_append]; simp; exact hl1
    obtain ⟨s1, hs1⟩ : ∃ s, s = mkS (Lib.itoa q) := ⟨_, rfl⟩
    obtain ⟨s2, hs2⟩ : ∃ s, s = mkS (Lib.itoa d) := ⟨_, rfl⟩
    obtain ⟨s3, hs3⟩ : ∃ s, s = mkS (Lib.itoa q ++ [47]) := ⟨_, rfl⟩
    rw [← hs1] at hf1 hc1 hz1
    rw [← hs2] at hf2 hc2 hz2
    rw [← hs3] at hc1 hc2 hz3
    have h12 : ¬ 9223372036854775807 < s1.size + 1 := by omega
    have h32 : ¬ 9223372036854775807 < s3.size + s2.size := by omega
    have HF := Lib.hid (And.intro hf1 hf2)
    clear hf1 hf2 hl1 hl2 hs1 hs2 hs3 hgt hb
    go_enter Tryd.func40, Tryd.ntmps40
    go_wp2_with fail
    with_reducible refine HC.out.mono ?_
    rintro e w1 ⟨rfl, hx⟩
    go_wp2_with fail
    with_reducible refine (HF.out.1 _ (ht.ext hx)).mono ?_
    rintro e w2 ⟨rfl, hy⟩
    replace hx := hx.trans hy
    go_wp2_with fail
    with_reducible refine (HF.out.2 _ (ht.ext hx)).mono ?_
    rintro e w3 ⟨rfl, hy2⟩
    replace hx := hx.trans hy2
    go_wp2
    go_ret
    exact ⟨rfl, hx⟩
set_option maxHeartbeats 1000000 in
theorem spec_GrowthText_any (v : Value) (m : List (List Int)) (d : Int) (w : World) (h : ReadsRows w v m) :
    Calls Tryd.prog 41 #[v, .int .i64 d] w fun e w' => e = .returned (.string (mkS (growT m d))) ∧ Ext w w' := by
  have HC := Lib.hid (spec_FloorOfGrowth_any v m d w h)
  have hb := floorV_bd m d
  have hgt : growT m d = if floorV m d < 0 then [] else Lib.itoa (floorV m d) ++ (47 :: Lib.itoa d) := rfl
  obtain ⟨q, hq⟩ : ∃ q, q = floorV m d := ⟨_, rfl⟩
  rw [← hq] at HC hb hgt
  obtain ⟨g, hg⟩ : ∃ g, g = growT m d := ⟨_, rfl⟩
  rw [← hg] at hgt ⊢
  clear hq hg h
  by_cases hneg : q < 0
  · rw [if_pos hneg] at hgt
    subst hgt
    go_enter Tryd.func41, Tryd.ntmps41
    go_wp2_with fail
    with_reducible refine HC.out.mono ?_
    rintro e w1 ⟨rfl, hx⟩
    go_wp2
    go_ret
    exact ⟨rfl, hx⟩
  · rw [if_neg hneg] at hgt
    have hd1 : 1 ≤ d := by omega
    have hd2 : d ≤ 100 := by omega
    have hq1 : q ≤ 3601 := by omega
    have hf1 := fun w  => spec_FormatInt_any q w (by omega) (by omega) 
    have hf2 := fun w  => spec_FormatInt_any d w (by omega) (by omega) 
    have hl1 := itoa_len (z := q) (by omega) (by omega)
    have hl2 := itoa_len (z := d) (by omega) (by omega)
    have hz1 : (mkS (Lib.itoa q)).size ≤ 21 := by rw [mkS_size]; exact hl1
    have hz2 : (mkS (Lib.itoa d)).size ≤ 21 := by rw [mkS_size]; exact hl2
    have hsl : (⟨#[47]⟩ : ByteArray).size = 1 := rfl
    have hc1 : mkS (Lib.itoa q) ++ ⟨#[47]⟩ = mkS (Lib.itoa q ++ [47]) := by rw [show (⟨#[47]⟩ : ByteArray) = mkS [47] from rfl, mkS_append]
    have hc2 : mkS (Lib.itoa q ++ [47]) ++ mkS (Lib.itoa d) = mkS g := by rw [mkS_append, hgt]; simp
    have hz3 : (mkS (Lib.itoa q ++ [47])).size ≤ 22 := by rw [mkS_size, List.length_append]; simp; exact hl1
    obtain ⟨s1, hs1⟩ : ∃ s, s = mkS (Lib.itoa q) := ⟨_, rfl⟩
    obtain ⟨s2, hs2⟩ : ∃ s, s = mkS (Lib.itoa d) := ⟨_, rfl⟩
    obtain ⟨s3, hs3⟩ : ∃ s, s = mkS (Lib.itoa q ++ [47]) := ⟨_, rfl⟩
    rw [← hs1] at hf1 hc1 hz1
    rw [← hs2] at hf2 hc2 hz2
    rw [← hs3] at hc1 hc2 hz3
    have h12 : ¬ 9223372036854775807 < s1.size + 1 := by omega
    have h32 : ¬ 9223372036854775807 < s3.size + s2.size := by omega
    have HF := Lib.hid (And.intro hf1 hf2)
    clear hf1 hf2 hl1 hl2 hs1 hs2 hs3 hgt hb
    go_enter Tryd.func41, Tryd.ntmps41
    go_wp2_with fail
    with_reducible refine HC.out.mono ?_
    rintro e w1 ⟨rfl, hx⟩
    go_wp2_with fail
    with_reducible refine (HF.out.1 _ ).mono ?_
    rintro e w2 ⟨rfl, hy⟩
    replace hx := hx.trans hy
    go_wp2_with fail
    with_reducible refine (HF.out.2 _ ).mono ?_
    rintro e w3 ⟨rfl, hy2⟩
    replace hx := hx.trans hy2
    go_wp2
    go_ret
    exact ⟨rfl, hx⟩
end Go.Proofs.YtdngkfedkgiioaaDoor

/- Contracts: a word that is in a shift's language; a graph all of whose vertices live. -/
import Derived.Test.YtfiembmfkokllaaGreatPrsA
import Derived.Test.YtfiembmfkokllaaGreatSameSh
import Derived.Test.YtfiembmfkokllaaGreatShH
import Derived.Test.YtfiembmfkokllaaGreatTab
namespace Go.Proofs.YtfiembmfkokllaaGreat
open Go.RowKit Go.Cm Go.Mx

set_option maxRecDepth 100000 in
set_option maxHeartbeats 2000000 in
theorem spec_InLanguage_yes (K : Nat) (v : Value) (F : List (List UInt8)) (x : List UInt8) (w : World) (h : ReadsW w v F) (hf : ShFit K F) (ha : areLet K x = true) (hl : x.length ≤ 16) (hh : hasL F (statesL K F) x = true) :
    Calls Tryz.prog 26 #[.agg #[.int .i64 K, v], .string (mkS x)] w fun e w' => e = .returned (.bool true) ∧ Ext w w' := by
  obtain ⟨pa, ca, rfl⟩ := h.slice
  have hx := Ext.alloc w (.cells #[.int .i64 K, .slice pa F.length ca] 26)
  have bc : Blk (w.alloc (.cells #[.int .i64 K, .slice pa F.length ca] 26)) w.heap.size #[.int .i64 K, .slice pa F.length ca] := by (repeat (first | (refine Blk.mk' ?_; (simp; done)) | apply Blk.old))
  have c0 := bc.cell 0 (.int .i64 K) rfl
  have c1 := bc.cell 1 (.slice pa F.length ca) rfl
  have hF3 : ∀ f ∈ F, f.length ≤ 1048576 := fun f hm => by have := (hf.word f hm).2.2; omega
  have hFm : ∀ f ∈ F, f.length ≤ maxLen := fun f hm => by have := (hf.word f hm).2.2; unfold maxLen; omega
  have h1 := fun w h => spec_IsShift_any K (.slice pa F.length ca) F w h hFm
  rw [hf.ok] at h1
  have hwo : wordOk K (mkS x) = true := by have h1 := hf.k1; have h3 := hf.k3; unfold wordOk; rw [mkS_size, mkS_data, ha]; simp; omega
  have h2 := fun w => spec_IsWord_any K (mkS x) w (by rw [mkS_size]; unfold maxLen; omega)
  rw [hwo] at h2
  have hst : ∀ u ∈ statesL K F, avoidL F u = true := fun u hu => statesL_avoid hu
  have h3 := fun w h => spec_l3Pairs_any K (.slice pa F.length ca) F w (by have := hf.k1; omega) hf.k3 h hF3
  have h4 := fun w z h hz => spec_l3In_any K (.slice pa F.length ca) z F (statesL K F) x w h hz hF3 (by omega) (fun u hu => by rw [wordsL_len (statesL_word hu)]; omega)
  rw [hasS_eq hst x, hh] at h4
  have hb := h.ext hx
  have HH := Lib.hid (And.intro h1 (And.intro h2 (And.intro h3 (And.intro h4 hb))))
  obtain ⟨X, hX⟩ : ∃ X, X = mkS x := ⟨_, rfl⟩
  rw [← hX] at HH ⊢
  clear h1 h2 h3 h4 hst hwo hF3 hFm hf ha hl hh h hb hX bc
  go_enter Tryz.func26, Tryz.ntmps26
  go_wp2
  refine wp_region_inv (by kernel_rfl) (.known ?hx6_10_v0 :: .known (.bool true) :: .known ?hx6_10_v2 :: .known ?hx6_10_v3 :: .known ?hx6_10_v4 :: .known ?hx6_10_v5 :: .known (.bool true) :: .known ?hx6_10_v7 :: .known ?hx6_10_v8 :: .known ?hx6_10_v9 :: .known ?hx6_10_v10 :: .such (WJ (statesL K F)) (WJ.ok _) :: .known ?hx6_10_v12 :: .known (.bool true) :: .known ?hx6_10_v14 :: .known ?hx6_10_v15 :: []) rfl (by kernel_rfl) ?hx6_10_s ?hx6_10_p
  case hx6_10_s =>
    intro vs
    refine ⟨fun w' hxw hj => ?_, fun w' hxw hj => ?_, fun w' hxw hj => ?_, fun w' hxw hj => ?_, fun w' hxw hj => ?_, fun w' hxw hj => ?_, fun w' hxw hj => ?_, fun w' hxw hj => ?_, fun w' hxw hj => ?_, fun w' hxw hj => ?_, fun w' hxw hj => ?_, fun w' hxw hj => ?_, fun w' hxw hj => ?_, fun w' hxw hj => ?_, fun w' hxw hj => ?_, fun w' hxw hj => ?_, trivial⟩
    · have c0 := Ext.cell_some hxw c0
      have c1 := Ext.cell_some hxw c1
      clear hj
      go_simp
      try go_bits
      first | rfl | (rw [if_pos (by omega), if_pos (by omega)]; go_simp; rfl) | (rw [if_pos (by omega)]; go_simp; rfl) | skip
    · have c0 := Ext.cell_some hxw c0
      have c1 := Ext.cell_some hxw c1
      clear hj
      go_simp
      try go_bits
      exact HH.out.1 _ (HH.out.2.2.2.2.ext hxw)
    · have c0 := Ext.cell_some hxw c0
      have c1 := Ext.cell_some hxw c1
      clear hj
      go_simp
      try go_bits
      first | rfl | (rw [if_pos (by omega), if_pos (by omega)]; go_simp; rfl) | (rw [if_pos (by omega)]; go_simp; rfl) | skip
    · have c0 := Ext.cell_some hxw c0
      have c1 := Ext.cell_some hxw c1
      clear hj
      go_simp
      try go_bits
      first | rfl | (rw [if_pos (by omega), if_pos (by omega)]; go_simp; rfl) | (rw [if_pos (by omega)]; go_simp; rfl) | skip
    · have c0 := Ext.cell_some hxw c0
      have c1 := Ext.cell_some hxw c1
      clear hj
      go_simp
      try go_bits
      first | rfl | (rw [if_pos (by omega), if_pos (by omega)]; go_simp; rfl) | (rw [if_pos (by omega)]; go_simp; rfl) | skip
    · have c0 := Ext.cell_some hxw c0
      have c1 := Ext.cell_some hxw c1
      clear hj
      go_simp
      try go_bits
      first | rfl | (rw [if_pos (by omega), if_pos (by omega)]; go_simp; rfl) | (rw [if_pos (by omega)]; go_simp; rfl) | skip
    · have c0 := Ext.cell_some hxw c0
      have c1 := Ext.cell_some hxw c1
      clear hj
      go_simp
      try go_bits
      exact (HH.out.2.1 _).mono (by rintro e w'' ⟨rfl, rfl⟩; exact ⟨rfl, Ext.refl _⟩)
    · have c0 := Ext.cell_some hxw c0
      have c1 := Ext.cell_some hxw c1
      clear hj
      go_simp
      try go_bits
      first | rfl | (rw [if_pos (by omega), if_pos (by omega)]; go_simp; rfl) | (rw [if_pos (by omega)]; go_simp; rfl) | skip
    · have c0 := Ext.cell_some hxw c0
      have c1 := Ext.cell_some hxw c1
      clear hj
      go_simp
      try go_bits
      first | rfl | (rw [if_pos (by omega), if_pos (by omega)]; go_simp; rfl) | (rw [if_pos (by omega)]; go_simp; rfl) | skip
    · have c0 := Ext.cell_some hxw c0
      have c1 := Ext.cell_some hxw c1
      clear hj
      go_simp
      try go_bits
      first | rfl | (rw [if_pos (by omega), if_pos (by omega)]; go_simp; rfl) | (rw [if_pos (by omega)]; go_simp; rfl) | skip
    · have c0 := Ext.cell_some hxw c0
      have c1 := Ext.cell_some hxw c1
      clear hj
      go_simp
      try go_bits
      first | rfl | (rw [if_pos (by omega), if_pos (by omega)]; go_simp; rfl) | (rw [if_pos (by omega)]; go_simp; rfl) | skip
    · have c0 := Ext.cell_some hxw c0
      have c1 := Ext.cell_some hxw c1
      clear hj
      go_simp
      try go_bits
      exact (HH.out.2.2.1 _ (HH.out.2.2.2.2.ext hxw)).mono (by rintro e w'' ⟨z, rfl, hz, hy⟩; exact ⟨z, rfl, hy, Own.readsW hz⟩)
    · have c0 := Ext.cell_some hxw c0
      have c1 := Ext.cell_some hxw c1
      clear hj
      go_simp
      try go_bits
      first | rfl | (rw [if_pos (by omega), if_pos (by omega)]; go_simp; rfl) | (rw [if_pos (by omega)]; go_simp; rfl) | skip
    · have c0 := Ext.cell_some hxw c0
      have c1 := Ext.cell_some hxw c1
      have k11 : WJ (statesL K F) (vs 11) w' := hj 11 (by kernel_rfl)
      clear hj
      go_simp
      try go_bits
      exact HH.out.2.2.2.1 _ _ (HH.out.2.2.2.2.ext hxw) k11
    · have c0 := Ext.cell_some hxw c0
      have c1 := Ext.cell_some hxw c1
      clear hj
      go_simp
      try go_bits
      first | rfl | (rw [if_pos (by omega), if_pos (by omega)]; go_simp; rfl) | (rw [if_pos (by omega)]; go_simp; rfl) | skip
    · have c0 := Ext.cell_some hxw c0
      have c1 := Ext.cell_some hxw c1
      clear hj
      go_simp
      try go_bits
      first | rfl | (rw [if_pos (by omega), if_pos (by omega)]; go_simp; rfl) | (rw [if_pos (by omega)]; go_simp; rfl) | skip
  case' hx6_10_p =>
    intro vs w6 hx6 hk
    have k11 : (WJ (statesL K F)) (vs 11) w6 := hk 11 _ rfl
    clear hk
    replace c0 := Ext.cell_some hx6 c0
    replace c1 := Ext.cell_some hx6 c1
    replace hx := Ext.trans hx hx6
    go_simp
    clear hx6 c0 c1
    go_wp2
    go_ret
    exact ⟨rfl, hx⟩

/-- each vertex has an arc from it and one to it -/
def Busy (m : List (List Int)) : Prop := ∀ i, i < m.length → (∃ j, j < m.length ∧ 0 < at2 m i j) ∧ (∃ j, j < m.length ∧ 0 < at2 m j i)
def someFrom (m : List (List Int)) (i k : Nat) : Bool := (List.range k).any fun j => decide (0 < at2 m i j)
def someTo (m : List (List Int)) (i k : Nat) : Bool := (List.range k).any fun j => decide (0 < at2 m j i)
theorem someFrom_succ (m : List (List Int)) (i k : Nat) : someFrom m i (k + 1) = (someFrom m i k || decide (0 < at2 m i k)) := by simp [someFrom, List.range_succ]
theorem someTo_succ (m : List (List Int)) (i k : Nat) : someTo m i (k + 1) = (someTo m i k || decide (0 < at2 m k i)) := by simp [someTo, List.range_succ]
theorem Busy.from' {m : List (List Int)} (h : Busy m) {i : Nat} (hi : i < m.length) : someFrom m i m.length = true := by
  obtain ⟨⟨j, hj, hp⟩, -⟩ := h i hi
  unfold someFrom
  rw [List.any_eq_true]
  exact ⟨j, List.mem_range.2 hj, by simpa using hp⟩
theorem Busy.to' {m : List (List Int)} (h : Busy m) {i : Nat} (hi : i < m.length) : someTo m i m.length = true := by
  obtain ⟨-, ⟨j, hj, hp⟩⟩ := h i hi
  unfold someTo
  rw [List.any_eq_true]
  exact ⟨j, List.mem_range.2 hj, by simpa using hp⟩
end Go.Proofs.YtfiembmfkokllaaGreat

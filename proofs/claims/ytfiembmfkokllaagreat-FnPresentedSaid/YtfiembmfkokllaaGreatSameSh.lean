/- Contracts: whether two shifts have the same language, by the program and by the reference. -/
import Derived.Test.YtfiembmfkokllaaGreatShI
namespace Go.Cm
theorem filter_of_subset {α : Type} {l : List α} {p q : α → Bool} (hs : ∀ x ∈ l.filter p, x ∈ l.filter q) (hl : (l.filter p).length = (l.filter q).length) : l.filter p = l.filter q := by
  have e : l.filter p = (l.filter q).filter p := by
    rw [List.filter_filter]
    apply List.filter_congr
    intro x hx
    cases hp : p x with
    | false => rfl
    | true =>
      have := (List.mem_filter.1 (hs x (List.mem_filter.2 ⟨hx, hp⟩))).2
      rw [this]; rfl
  have hsub : (l.filter p).Sublist (l.filter q) := by
    rw [e]
    exact List.filter_sublist
  exact hsub.eq_of_length hl
theorem lang_same {K : Nat} {F G : List (List UInt8)} (hs : ∀ x ∈ languageL K F 3, x ∈ languageL K G 3) (hl : (languageL K F 3).length = (languageL K G 3).length) : languageL K F 3 = languageL K G 3 := filter_of_subset hs hl
end Go.Cm
namespace Go.Proofs.YtfiembmfkokllaaGreat
open Go.RowKit Go.Cm

/-- both are shifts with the same letters and language -/
def sameSh (L : Int) (F : List (List UInt8)) (L' : Int) (G : List (List UInt8)) : Bool := (shiftOk L F && (shiftOk L' G && decide (L = L'))) && decide (langOf L F 3 = langOf L' G 3)
theorem map_mkS_inj {F G : List (List UInt8)} : F.map mkS = G.map mkS ↔ F = G := by
  constructor
  · intro h
    have := congrArg (List.map fun s : ByteArray => s.data.toList) h
    rw [List.map_map, List.map_map] at this
    simpa [Function.comp_def, mkS_data] using this
  · intro h; rw [h]

theorem equalW_any (v v' : Value) (F G : List (List UInt8)) (w : World) (h : ReadsW w v F) (h' : ReadsW w v' G) :
    Calls Tryz.prog 56 #[v, v'] w fun e w' => e = .returned (.bool (decide (F = G))) ∧ Ext w w' := by
  obtain ⟨a, c, rfl⟩ := h.slice
  obtain ⟨a', c', rfl⟩ := h'.slice
  obtain ⟨-, hlc, hc⟩ := h.len
  obtain ⟨-, hlc', hc'⟩ := h'.len
  by_cases hl : F.length = G.length
  rotate_left
  · refine (Tryz.slices_Equal_string_lens a a' F.length c G.length c' w hl).mono fun e w' ⟨h1, h2⟩ => ⟨?_, h2 ▸ Ext.refl _⟩
    rw [h1, decide_eq_false (fun e => hl (by rw [e]))]
  by_cases h0 : F.length = 0
  · have hF : F = [] := List.eq_nil_of_length_eq_zero h0
    have hG : G = [] := List.eq_nil_of_length_eq_zero (by omega)
    subst hF; subst hG
    exact (Tryz.slices_Equal_string_empty a a' c 0 c' w (by omega)).mono fun e w' ⟨h1, h2⟩ => ⟨by rw [h1]; rfl, h2 ▸ Ext.refl _⟩
  obtain ⟨b, o, rfl, _⟩ := h.at 0 (by omega)
  obtain ⟨b', o', rfl, _⟩ := h'.at 0 (by omega)
  have hx : ∀ j, j < (F.map mkS).length → w.cell? ⟨b, o + j, none⟩ = some (.string ((F.map mkS).getD j ByteArray.empty)) := by
    intro j hj
    rw [List.length_map] at hj
    obtain ⟨_, _, e, hcell⟩ := h.at j hj
    cases e
    rw [hcell]
    simp [List.getD_eq_getElem?_getD, List.getElem?_eq_getElem hj]
  have hy : ∀ j, j < (G.map mkS).length → w.cell? ⟨b', o' + j, none⟩ = some (.string ((G.map mkS).getD j ByteArray.empty)) := by
    intro j hj
    rw [List.length_map] at hj
    obtain ⟨_, _, e, hcell⟩ := h'.at j hj
    cases e
    rw [hcell]
    simp [List.getD_eq_getElem?_getD, List.getElem?_eq_getElem hj]
  refine (Tryz.slices_Equal_string b o F.length c b' o' G.length c' (F.map mkS) (G.map mkS) w (by simp) (by simp) (by omega) (by omega) hx hy).mono fun e w' ⟨h1, q, h2⟩ => ⟨?_, ?_⟩
  · rw [h1]
    refine ret_bool ?_
    rw [List.take_of_length_le (by simp), List.take_of_length_le (by simp), decide_eq_decide]
    exact map_mkS_inj
  · rw [h2]
    exact (Ext.refl w).drewN q

/-- a row of these words -/
def WJ (F : List (List UInt8)) (v : Value) (w : World) : Prop := ReadsW w v F
theorem WJ.ok (F : List (List UInt8)) : ∀ v w w', Ext w w' → WJ F v w → WJ F v w' := fun _ _ _ hx h => ReadsW.ext h hx

theorem impl_language3_any (K : Nat) (v : Value) (F : List (List UInt8)) (w : World) (hf : ShFit K F) (h : ReadsW w v F) (hm : MaxC w) :
    Calls Tryz.prog 33 #[.agg #[.int .i64 K, v], .int .i64 3] w fun e w' => ∃ z, e = .returned z ∧ Ext w w' ∧ WJ (langOf K F 3) z w' := by
  have hl : langOf K F 3 = languageL K F 3 := langOf_yes (n := 3) hf (by omega)
  rw [hl]
  exact (impl_language_any K 3 v F w (by have := hf.k1; omega) hf.k3 (by omega) h hm).mono fun _ _ ⟨z, h1, h2, h3⟩ => ⟨z, h1, h3, Own.readsW h2⟩

theorem sameSh_no {L L' : Int} {F G : List (List UInt8)} (h : shiftOk L F = false ∨ shiftOk L' G = false ∨ ¬ L = L') : sameSh L F L' G = false := by
  unfold sameSh
  rcases h with h | h | h
  · rw [h]; rfl
  · rw [h]; simp
  · rw [decide_eq_false h]; simp
theorem sameSh_yes {L : Int} {F G : List (List UInt8)} (h : shiftOk L F = true) (h' : shiftOk L G = true) : sameSh L F L G = decide (langOf L F 3 = langOf L G 3) := by
  unfold sameSh
  rw [h, h', decide_eq_true rfl]
  rfl

set_option maxRecDepth 100000 in
set_option maxHeartbeats 4000000 in
theorem impl_AreSameShift_any (L L' : Int) (v v' : Value) (F G : List (List UInt8)) (w : World) (h : ReadsW w v F) (h' : ReadsW w v' G) (hm : MaxC w) (hF : ∀ f ∈ F, f.length ≤ maxLen) (hG : ∀ f ∈ G, f.length ≤ maxLen) :
    Calls Tryz.prog 17 #[.agg #[.int .i64 L, v], .agg #[.int .i64 L', v']] w fun e w' => e = .returned (.bool (sameSh L F L' G)) ∧ Ext w w' := by
  obtain ⟨pa, ca, rfl⟩ := h.slice
  obtain ⟨pb, cb, rfl⟩ := h'.slice
  have hx := (Ext.alloc w (.cells #[.int .i64 L, .slice pa F.length ca] 26)).trans (Ext.alloc _ (.cells #[.int .i64 L', .slice pb G.length cb] 26))
  have b1 : Blk ((w.alloc (.cells #[.int .i64 L, .slice pa F.length ca] 26)).alloc (.cells #[.int .i64 L', .slice pb G.length cb] 26)) w.heap.size #[.int .i64 L, .slice pa F.length ca] := by (repeat (first | (refine Blk.mk' ?_; (simp; done)) | apply Blk.old))
  have b2 : Blk ((w.alloc (.cells #[.int .i64 L, .slice pa F.length ca] 26)).alloc (.cells #[.int .i64 L', .slice pb G.length cb] 26)) (w.heap.size + 1) #[.int .i64 L', .slice pb G.length cb] := by (repeat (first | (refine Blk.mk' ?_; (simp; done)) | apply Blk.old))
  have HA := Lib.hid (And.intro h (And.intro h' (And.intro hm (And.intro hF hG))))
  have a0 := b1.cell 0 (.int .i64 L) rfl
  have a1 := b1.cell 1 (.slice pa F.length ca) rfl
  have c0 := b2.cell 0 (.int .i64 L') rfl
  have c1 := b2.cell 1 (.slice pb G.length cb) rfl
  clear h h' hm hF hG b1 b2
  obtain ⟨k1, hk1⟩ : ∃ k, k = shiftOk L F := ⟨_, rfl⟩
  obtain ⟨k2, hk2⟩ : ∃ k, k = shiftOk L' G := ⟨_, rfl⟩
  have d1 := fun w h => impl_IsShift_any L (.slice pa F.length ca) F w h HA.out.2.2.2.1
  have d2 := fun w h => impl_IsShift_any L' (.slice pb G.length cb) G w h HA.out.2.2.2.2
  rw [← hk1] at d1
  rw [← hk2] at d2
  have HD := Lib.hid (And.intro d1 (And.intro d2 (And.intro hk1 hk2)))
  clear d1 d2 hk1 hk2
  cases k1
  · have HN := Lib.hid (sameSh_no (L := L) (F := F) (L' := L') (G := G) (.inl HD.out.2.2.1.symm))
    go_enter Tryz.func17, Tryz.ntmps17
    go_wp2
    refine wp_region_inv (by kernel_rfl) (.known ?hxr_12_v0 :: .known (.bool false) :: .known ?hxr_12_v2 :: .known ?hxr_12_v3 :: .known ?hxr_12_v4 :: .known ?hxr_12_v5 :: .known ?hxr_12_v6 :: .known ?hxr_12_v7 :: .known ?hxr_12_v8 :: .known ?hxr_12_v9 :: .known ?hxr_12_v10 :: .known ?hxr_12_v11 :: .known ?hxr_12_v12 :: .known ?hxr_12_v13 :: .known ?hxr_12_v14 :: .known ?hxr_12_v15 :: .known ?hxr_12_v16 :: .known ?hxr_12_v17 :: .known ?hxr_12_v18 :: .known ?hxr_12_v19 :: .known ?hxr_12_v20 :: []) rfl (by kernel_rfl) ?hxr_12_s ?hxr_12_p
    case hxr_12_s =>
      intro vs
      refine ⟨fun w' hxw hj => ?_, fun w' hxw hj => ?_, fun w' hxw hj => ?_, fun w' hxw hj => ?_, fun w' hxw hj => ?_, fun w' hxw hj => ?_, fun w' hxw hj => ?_, fun w' hxw hj => ?_, fun w' hxw hj => ?_, fun w' hxw hj => ?_, fun w' hxw hj => ?_, fun w' hxw hj => ?_, fun w' hxw hj => ?_, fun w' hxw hj => ?_, fun w' hxw hj => ?_, fun w' hxw hj => ?_, fun w' hxw hj => ?_, fun w' hxw hj => ?_, fun w' hxw hj => ?_, fun w' hxw hj => ?_, fun w' hxw hj => ?_, trivial⟩
      · have a0 := Ext.cell_some hxw a0
        have a1 := Ext.cell_some hxw a1
        have c0 := Ext.cell_some hxw c0
        have c1 := Ext.cell_some hxw c1
        clear hj
        go_simp
        try go_bits
        first | rfl | (rw [if_pos (by omega), if_pos (by omega)]; go_simp; rfl) | (rw [if_pos (by omega)]; go_simp; rfl) | skip
      · have a0 := Ext.cell_some hxw a0
        have a1 := Ext.cell_some hxw a1
        have c0 := Ext.cell_some hxw c0
        have c1 := Ext.cell_some hxw c1
        clear hj
        go_simp
        try go_bits
        exact HD.out.1 _ (HA.out.1.ext (hx.trans hxw))
      · have a0 := Ext.cell_some hxw a0
        have a1 := Ext.cell_some hxw a1
        have c0 := Ext.cell_some hxw c0
        have c1 := Ext.cell_some hxw c1
        clear hj
        go_simp
        try go_bits
        first | rfl | (rw [if_pos (by omega), if_pos (by omega)]; go_simp; rfl) | (rw [if_pos (by omega)]; go_simp; rfl) | skip
      · have a0 := Ext.cell_some hxw a0
        have a1 := Ext.cell_some hxw a1
        have c0 := Ext.cell_some hxw c0
        have c1 := Ext.cell_some hxw c1
        clear hj
        go_simp
        try go_bits
        first | rfl | (rw [if_pos (by omega), if_pos (by omega)]; go_simp; rfl) | (rw [if_pos (by omega)]; go_simp; rfl) | skip
      · have a0 := Ext.cell_some hxw a0
        have a1 := Ext.cell_some hxw a1
        have c0 := Ext.cell_some hxw c0
        have c1 := Ext.cell_some hxw c1
        clear hj
        go_simp
        try go_bits
        first | rfl | (rw [if_pos (by omega), if_pos (by omega)]; go_simp; rfl) | (rw [if_pos (by omega)]; go_simp; rfl) | skip
      · have a0 := Ext.cell_some hxw a0
        have a1 := Ext.cell_some hxw a1
        have c0 := Ext.cell_some hxw c0
        have c1 := Ext.cell_some hxw c1
        clear hj
        go_simp
        try go_bits
        first | rfl | (rw [if_pos (by omega), if_pos (by omega)]; go_simp; rfl) | (rw [if_pos (by omega)]; go_simp; rfl) | skip
      · have a0 := Ext.cell_some hxw a0
        have a1 := Ext.cell_some hxw a1
        have c0 := Ext.cell_some hxw c0
        have c1 := Ext.cell_some hxw c1
        clear hj
        go_simp
        try go_bits
        first | rfl | (rw [if_pos (by omega), if_pos (by omega)]; go_simp; rfl) | (rw [if_pos (by omega)]; go_simp; rfl) | skip
      · have a0 := Ext.cell_some hxw a0
        have a1 := Ext.cell_some hxw a1
        have c0 := Ext.cell_some hxw c0
        have c1 := Ext.cell_some hxw c1
        clear hj
        go_simp
        try go_bits
        first | rfl | (rw [if_pos (by omega), if_pos (by omega)]; go_simp; rfl) | (rw [if_pos (by omega)]; go_simp; rfl) | skip
      · have a0 := Ext.cell_some hxw a0
        have a1 := Ext.cell_some hxw a1
        have c0 := Ext.cell_some hxw c0
        have c1 := Ext.cell_some hxw c1
        clear hj
        go_simp
        try go_bits
        first | rfl | (rw [if_pos (by omega), if_pos (by omega)]; go_simp; rfl) | (rw [if_pos (by omega)]; go_simp; rfl) | skip
      · have a0 := Ext.cell_some hxw a0
        have a1 := Ext.cell_some hxw a1
        have c0 := Ext.cell_some hxw c0
        have c1 := Ext.cell_some hxw c1
        clear hj
        go_simp
        try go_bits
        first | rfl | (rw [if_pos (by omega), if_pos (by omega)]; go_simp; rfl) | (rw [if_pos (by omega)]; go_simp; rfl) | skip
      · have a0 := Ext.cell_some hxw a0
        have a1 := Ext.cell_some hxw a1
        have c0 := Ext.cell_some hxw c0
        have c1 := Ext.cell_some hxw c1
        clear hj
        go_simp
        try go_bits
        first | rfl | (rw [if_pos (by omega), if_pos (by omega)]; go_simp; rfl) | (rw [if_pos (by omega)]; go_simp; rfl) | skip
      · have a0 := Ext.cell_some hxw a0
        have a1 := Ext.cell_some hxw a1
        have c0 := Ext.cell_some hxw c0
        have c1 := Ext.cell_some hxw c1
        clear hj
        go_simp
        try go_bits
        first | rfl | (rw [if_pos (by omega), if_pos (by omega)]; go_simp; rfl) | (rw [if_pos (by omega)]; go_simp; rfl) | skip
      · have a0 := Ext.cell_some hxw a0
        have a1 := Ext.cell_some hxw a1
        have c0 := Ext.cell_some hxw c0
        have c1 := Ext.cell_some hxw c1
        clear hj
        go_simp
        try go_bits
        first | rfl | (rw [if_pos (by omega), if_pos (by omega)]; go_simp; rfl) | (rw [if_pos (by omega)]; go_simp; rfl) | skip
      · have a0 := Ext.cell_some hxw a0
        have a1 := Ext.cell_some hxw a1
        have c0 := Ext.cell_some hxw c0
        have c1 := Ext.cell_some hxw c1
        clear hj
        go_simp
        try go_bits
        first | rfl | (rw [if_pos (by omega), if_pos (by omega)]; go_simp; rfl) | (rw [if_pos (by omega)]; go_simp; rfl) | skip
      · have a0 := Ext.cell_some hxw a0
        have a1 := Ext.cell_some hxw a1
        have c0 := Ext.cell_some hxw c0
        have c1 := Ext.cell_some hxw c1
        clear hj
        go_simp
        try go_bits
        first | rfl | (rw [if_pos (by omega), if_pos (by omega)]; go_simp; rfl) | (rw [if_pos (by omega)]; go_simp; rfl) | skip
      · have a0 := Ext.cell_some hxw a0
        have a1 := Ext.cell_some hxw a1
        have c0 := Ext.cell_some hxw c0
        have c1 := Ext.cell_some hxw c1
        clear hj
        go_simp
        try go_bits
        first | rfl | (rw [if_pos (by omega), if_pos (by omega)]; go_simp; rfl) | (rw [if_pos (by omega)]; go_simp; rfl) | skip
      · have a0 := Ext.cell_some hxw a0
        have a1 := Ext.cell_some hxw a1
        have c0 := Ext.cell_some hxw c0
        have c1 := Ext.cell_some hxw c1
        clear hj
        go_simp
        try go_bits
        first | rfl | (rw [if_pos (by omega), if_pos (by omega)]; go_simp; rfl) | (rw [if_pos (by omega)]; go_simp; rfl) | skip
      · have a0 := Ext.cell_some hxw a0
        have a1 := Ext.cell_some hxw a1
        have c0 := Ext.cell_some hxw c0
        have c1 := Ext.cell_some hxw c1
        clear hj
        go_simp
        try go_bits
        first | rfl | (rw [if_pos (by omega), if_pos (by omega)]; go_simp; rfl) | (rw [if_pos (by omega)]; go_simp; rfl) | skip
      · have a0 := Ext.cell_some hxw a0
        have a1 := Ext.cell_some hxw a1
        have c0 := Ext.cell_some hxw c0
        have c1 := Ext.cell_some hxw c1
        clear hj
        go_simp
        try go_bits
        first | rfl | (rw [if_pos (by omega), if_pos (by omega)]; go_simp; rfl) | (rw [if_pos (by omega)]; go_simp; rfl) | skip
      · have a0 := Ext.cell_some hxw a0
        have a1 := Ext.cell_some hxw a1
        have c0 := Ext.cell_some hxw c0
        have c1 := Ext.cell_some hxw c1
        clear hj
        go_simp
        try go_bits
        first | rfl | (rw [if_pos (by omega), if_pos (by omega)]; go_simp; rfl) | (rw [if_pos (by omega)]; go_simp; rfl) | skip
      · have a0 := Ext.cell_some hxw a0
        have a1 := Ext.cell_some hxw a1
        have c0 := Ext.cell_some hxw c0
        have c1 := Ext.cell_some hxw c1
        clear hj
        go_simp
        try go_bits
        first | rfl | (rw [if_pos (by omega), if_pos (by omega)]; go_simp; rfl) | (rw [if_pos (by omega)]; go_simp; rfl) | skip
    case' hxr_12_p =>
      intro vs w5 hxr hk
      clear hk
      replace a0 := Ext.cell_some hxr a0
      replace a1 := Ext.cell_some hxr a1
      replace c0 := Ext.cell_some hxr c0
      replace c1 := Ext.cell_some hxr c1
      replace hx := Ext.trans hx hxr
      go_simp
      clear hxr a0 a1 c0 c1
      go_wp2
      go_ret
      exact ⟨ret_bool HN.out.symm, hx⟩
  cases k2
  · have HN := Lib.hid (sameSh_no (L := L) (F := F) (L' := L') (G := G) (.inr (.inl HD.out.2.2.2.symm)))
    go_enter Tryz.func17, Tryz.ntmps17
    go_wp2
    refine wp_region_inv (by kernel_rfl) (.known ?hxr_13_v0 :: .known (.bool true) :: .known ?hxr_13_v2 :: .known ?hxr_13_v3 :: .known (.bool false) :: .known ?hxr_13_v5 :: .known ?hxr_13_v6 :: .known ?hxr_13_v7 :: .known ?hxr_13_v8 :: .known ?hxr_13_v9 :: .known ?hxr_13_v10 :: .known ?hxr_13_v11 :: .known ?hxr_13_v12 :: .known ?hxr_13_v13 :: .known ?hxr_13_v14 :: .known ?hxr_13_v15 :: .known ?hxr_13_v16 :: .known ?hxr_13_v17 :: .known ?hxr_13_v18 :: .known ?hxr_13_v19 :: .known ?hxr_13_v20 :: []) rfl (by kernel_rfl) ?hxr_13_s ?hxr_13_p
    case hxr_13_s =>
      intro vs
      refine ⟨fun w' hxw hj => ?_, fun w' hxw hj => ?_, fun w' hxw hj => ?_, fun w' hxw hj => ?_, fun w' hxw hj => ?_, fun w' hxw hj => ?_, fun w' hxw hj => ?_, fun w' hxw hj => ?_, fun w' hxw hj => ?_, fun w' hxw hj => ?_, fun w' hxw hj => ?_, fun w' hxw hj => ?_, fun w' hxw hj => ?_, fun w' hxw hj => ?_, fun w' hxw hj => ?_, fun w' hxw hj => ?_, fun w' hxw hj => ?_, fun w' hxw hj => ?_, fun w' hxw hj => ?_, fun w' hxw hj => ?_, fun w' hxw hj => ?_, trivial⟩
      · have a0 := Ext.cell_some hxw a0
        have a1 := Ext.cell_some hxw a1
        have c0 := Ext.cell_some hxw c0
        have c1 := Ext.cell_some hxw c1
        clear hj
        go_simp
        try go_bits
        first | rfl | (rw [if_pos (by omega), if_pos (by omega)]; go_simp; rfl) | (rw [if_pos (by omega)]; go_simp; rfl) | skip
      · have a0 := Ext.cell_some hxw a0
        have a1 := Ext.cell_some hxw a1
        have c0 := Ext.cell_some hxw c0
        have c1 := Ext.cell_some hxw c1
        clear hj
        go_simp
        try go_bits
        exact HD.out.1 _ (HA.out.1.ext (hx.trans hxw))
      · have a0 := Ext.cell_some hxw a0
        have a1 := Ext.cell_some hxw a1
        have c0 := Ext.cell_some hxw c0
        have c1 := Ext.cell_some hxw c1
        clear hj
        go_simp
        try go_bits
        first | rfl | (rw [if_pos (by omega), if_pos (by omega)]; go_simp; rfl) | (rw [if_pos (by omega)]; go_simp; rfl) | skip
      · have a0 := Ext.cell_some hxw a0
        have a1 := Ext.cell_some hxw a1
        have c0 := Ext.cell_some hxw c0
        have c1 := Ext.cell_some hxw c1
        clear hj
        go_simp
        try go_bits
        first | rfl | (rw [if_pos (by omega), if_pos (by omega)]; go_simp; rfl) | (rw [if_pos (by omega)]; go_simp; rfl) | skip
      · have a0 := Ext.cell_some hxw a0
        have a1 := Ext.cell_some hxw a1
        have c0 := Ext.cell_some hxw c0
        have c1 := Ext.cell_some hxw c1
        clear hj
        go_simp
        try go_bits
        exact HD.out.2.1 _ (HA.out.2.1.ext (hx.trans hxw))
      · have a0 := Ext.cell_some hxw a0
        have a1 := Ext.cell_some hxw a1
        have c0 := Ext.cell_some hxw c0
        have c1 := Ext.cell_some hxw c1
        clear hj
        go_simp
        try go_bits
        first | rfl | (rw [if_pos (by omega), if_pos (by omega)]; go_simp; rfl) | (rw [if_pos (by omega)]; go_simp; rfl) | skip
      · have a0 := Ext.cell_some hxw a0
        have a1 := Ext.cell_some hxw a1
        have c0 := Ext.cell_some hxw c0
        have c1 := Ext.cell_some hxw c1
        clear hj
        go_simp
        try go_bits
        first | rfl | (rw [if_pos (by omega), if_pos (by omega)]; go_simp; rfl) | (rw [if_pos (by omega)]; go_simp; rfl) | skip
      · have a0 := Ext.cell_some hxw a0
        have a1 := Ext.cell_some hxw a1
        have c0 := Ext.cell_some hxw c0
        have c1 := Ext.cell_some hxw c1
        clear hj
        go_simp
        try go_bits
        first | rfl | (rw [if_pos (by omega), if_pos (by omega)]; go_simp; rfl) | (rw [if_pos (by omega)]; go_simp; rfl) | skip
      · have a0 := Ext.cell_some hxw a0
        have a1 := Ext.cell_some hxw a1
        have c0 := Ext.cell_some hxw c0
        have c1 := Ext.cell_some hxw c1
        clear hj
        go_simp
        try go_bits
        first | rfl | (rw [if_pos (by omega), if_pos (by omega)]; go_simp; rfl) | (rw [if_pos (by omega)]; go_simp; rfl) | skip
      · have a0 := Ext.cell_some hxw a0
        have a1 := Ext.cell_some hxw a1
        have c0 := Ext.cell_some hxw c0
        have c1 := Ext.cell_some hxw c1
        clear hj
        go_simp
        try go_bits
        first | rfl | (rw [if_pos (by omega), if_pos (by omega)]; go_simp; rfl) | (rw [if_pos (by omega)]; go_simp; rfl) | skip
      · have a0 := Ext.cell_some hxw a0
        have a1 := Ext.cell_some hxw a1
        have c0 := Ext.cell_some hxw c0
        have c1 := Ext.cell_some hxw c1
        clear hj
        go_simp
        try go_bits
        first | rfl | (rw [if_pos (by omega), if_pos (by omega)]; go_simp; rfl) | (rw [if_pos (by omega)]; go_simp; rfl) | skip
      · have a0 := Ext.cell_some hxw a0
        have a1 := Ext.cell_some hxw a1
        have c0 := Ext.cell_some hxw c0
        have c1 := Ext.cell_some hxw c1
        clear hj
        go_simp
        try go_bits
        first | rfl | (rw [if_pos (by omega), if_pos (by omega)]; go_simp; rfl) | (rw [if_pos (by omega)]; go_simp; rfl) | skip
      · have a0 := Ext.cell_some hxw a0
        have a1 := Ext.cell_some hxw a1
        have c0 := Ext.cell_some hxw c0
        have c1 := Ext.cell_some hxw c1
        clear hj
        go_simp
        try go_bits
        first | rfl | (rw [if_pos (by omega), if_pos (by omega)]; go_simp; rfl) | (rw [if_pos (by omega)]; go_simp; rfl) | skip
      · have a0 := Ext.cell_some hxw a0
        have a1 := Ext.cell_some hxw a1
        have c0 := Ext.cell_some hxw c0
        have c1 := Ext.cell_some hxw c1
        clear hj
        go_simp
        try go_bits
        first | rfl | (rw [if_pos (by omega), if_pos (by omega)]; go_simp; rfl) | (rw [if_pos (by omega)]; go_simp; rfl) | skip
      · have a0 := Ext.cell_some hxw a0
        have a1 := Ext.cell_some hxw a1
        have c0 := Ext.cell_some hxw c0
        have c1 := Ext.cell_some hxw c1
        clear hj
        go_simp
        try go_bits
        first | rfl | (rw [if_pos (by omega), if_pos (by omega)]; go_simp; rfl) | (rw [if_pos (by omega)]; go_simp; rfl) | skip
      · have a0 := Ext.cell_some hxw a0
        have a1 := Ext.cell_some hxw a1
        have c0 := Ext.cell_some hxw c0
        have c1 := Ext.cell_some hxw c1
        clear hj
        go_simp
        try go_bits
        first | rfl | (rw [if_pos (by omega), if_pos (by omega)]; go_simp; rfl) | (rw [if_pos (by omega)]; go_simp; rfl) | skip
      · have a0 := Ext.cell_some hxw a0
        have a1 := Ext.cell_some hxw a1
        have c0 := Ext.cell_some hxw c0
        have c1 := Ext.cell_some hxw c1
        clear hj
        go_simp
        try go_bits
        first | rfl | (rw [if_pos (by omega), if_pos (by omega)]; go_simp; rfl) | (rw [if_pos (by omega)]; go_simp; rfl) | skip
      · have a0 := Ext.cell_some hxw a0
        have a1 := Ext.cell_some hxw a1
        have c0 := Ext.cell_some hxw c0
        have c1 := Ext.cell_some hxw c1
        clear hj
        go_simp
        try go_bits
        first | rfl | (rw [if_pos (by omega), if_pos (by omega)]; go_simp; rfl) | (rw [if_pos (by omega)]; go_simp; rfl) | skip
      · have a0 := Ext.cell_some hxw a0
        have a1 := Ext.cell_some hxw a1
        have c0 := Ext.cell_some hxw c0
        have c1 := Ext.cell_some hxw c1
        clear hj
        go_simp
        try go_bits
        first | rfl | (rw [if_pos (by omega), if_pos (by omega)]; go_simp; rfl) | (rw [if_pos (by omega)]; go_simp; rfl) | skip
      · have a0 := Ext.cell_some hxw a0
        have a1 := Ext.cell_some hxw a1
        have c0 := Ext.cell_some hxw c0
        have c1 := Ext.cell_some hxw c1
        clear hj
        go_simp
        try go_bits
        first | rfl | (rw [if_pos (by omega), if_pos (by omega)]; go_simp; rfl) | (rw [if_pos (by omega)]; go_simp; rfl) | skip
      · have a0 := Ext.cell_some hxw a0
        have a1 := Ext.cell_some hxw a1
        have c0 := Ext.cell_some hxw c0
        have c1 := Ext.cell_some hxw c1
        clear hj
        go_simp
        try go_bits
        first | rfl | (rw [if_pos (by omega), if_pos (by omega)]; go_simp; rfl) | (rw [if_pos (by omega)]; go_simp; rfl) | skip
    case' hxr_13_p =>
      intro vs w5 hxr hk
      clear hk
      replace a0 := Ext.cell_some hxr a0
      replace a1 := Ext.cell_some hxr a1
      replace c0 := Ext.cell_some hxr c0
      replace c1 := Ext.cell_some hxr c1
      replace hx := Ext.trans hx hxr
      go_simp
      clear hxr a0 a1 c0 c1
      go_wp2
      go_ret
      exact ⟨ret_bool HN.out.symm, hx⟩
  by_cases hL : L = L'
  rotate_left
  · have HN := Lib.hid (sameSh_no (L := L) (F := F) (L' := L') (G := G) (.inr (.inr hL)))
    have hne : (L == L') = false := by simpa using hL
    clear hL
    go_enter Tryz.func17, Tryz.ntmps17
    go_wp2
    refine wp_region_inv (by kernel_rfl) (.known ?hxr_14_v0 :: .known (.bool true) :: .known ?hxr_14_v2 :: .known ?hxr_14_v3 :: .known (.bool true) :: .known ?hxr_14_v5 :: .known ?hxr_14_v6 :: .known ?hxr_14_v7 :: .known ?hxr_14_v8 :: .known ?hxr_14_v9 :: .known ?hxr_14_v10 :: .known ?hxr_14_v11 :: .known ?hxr_14_v12 :: .known ?hxr_14_v13 :: .known ?hxr_14_v14 :: .known ?hxr_14_v15 :: .known ?hxr_14_v16 :: .known ?hxr_14_v17 :: .known ?hxr_14_v18 :: .known ?hxr_14_v19 :: .known ?hxr_14_v20 :: []) rfl (by kernel_rfl) ?hxr_14_s ?hxr_14_p
    case hxr_14_s =>
      intro vs
      refine ⟨fun w' hxw hj => ?_, fun w' hxw hj => ?_, fun w' hxw hj => ?_, fun w' hxw hj => ?_, fun w' hxw hj => ?_, fun w' hxw hj => ?_, fun w' hxw hj => ?_, fun w' hxw hj => ?_, fun w' hxw hj => ?_, fun w' hxw hj => ?_, fun w' hxw hj => ?_, fun w' hxw hj => ?_, fun w' hxw hj => ?_, fun w' hxw hj => ?_, fun w' hxw hj => ?_, fun w' hxw hj => ?_, fun w' hxw hj => ?_, fun w' hxw hj => ?_, fun w' hxw hj => ?_, fun w' hxw hj => ?_, fun w' hxw hj => ?_, trivial⟩
      · have a0 := Ext.cell_some hxw a0
        have a1 := Ext.cell_some hxw a1
        have c0 := Ext.cell_some hxw c0
        have c1 := Ext.cell_some hxw c1
        clear hj
        go_simp
        try go_bits
        first | rfl | (rw [if_pos (by omega), if_pos (by omega)]; go_simp; rfl) | (rw [if_pos (by omega)]; go_simp; rfl) | skip
      · have a0 := Ext.cell_some hxw a0
        have a1 := Ext.cell_some hxw a1
        have c0 := Ext.cell_some hxw c0
        have c1 := Ext.cell_some hxw c1
        clear hj
        go_simp
        try go_bits
        exact HD.out.1 _ (HA.out.1.ext (hx.trans hxw))
      · have a0 := Ext.cell_some hxw a0
        have a1 := Ext.cell_some hxw a1
        have c0 := Ext.cell_some hxw c0
        have c1 := Ext.cell_some hxw c1
        clear hj
        go_simp
        try go_bits
        first | rfl | (rw [if_pos (by omega), if_pos (by omega)]; go_simp; rfl) | (rw [if_pos (by omega)]; go_simp; rfl) | skip
      · have a0 := Ext.cell_some hxw a0
        have a1 := Ext.cell_some hxw a1
        have c0 := Ext.cell_some hxw c0
        have c1 := Ext.cell_some hxw c1
        clear hj
        go_simp
        try go_bits
        first | rfl | (rw [if_pos (by omega), if_pos (by omega)]; go_simp; rfl) | (rw [if_pos (by omega)]; go_simp; rfl) | skip
      · have a0 := Ext.cell_some hxw a0
        have a1 := Ext.cell_some hxw a1
        have c0 := Ext.cell_some hxw c0
        have c1 := Ext.cell_some hxw c1
        clear hj
        go_simp
        try go_bits
        exact HD.out.2.1 _ (HA.out.2.1.ext (hx.trans hxw))
      · have a0 := Ext.cell_some hxw a0
        have a1 := Ext.cell_some hxw a1
        have c0 := Ext.cell_some hxw c0
        have c1 := Ext.cell_some hxw c1
        clear hj
        go_simp
        try go_bits
        first | rfl | (rw [if_pos (by omega), if_pos (by omega)]; go_simp; rfl) | (rw [if_pos (by omega)]; go_simp; rfl) | skip
      · have a0 := Ext.cell_some hxw a0
        have a1 := Ext.cell_some hxw a1
        have c0 := Ext.cell_some hxw c0
        have c1 := Ext.cell_some hxw c1
        clear hj
        go_simp
        try go_bits
        first | rfl | (rw [if_pos (by omega), if_pos (by omega)]; go_simp; rfl) | (rw [if_pos (by omega)]; go_simp; rfl) | skip
      · have a0 := Ext.cell_some hxw a0
        have a1 := Ext.cell_some hxw a1
        have c0 := Ext.cell_some hxw c0
        have c1 := Ext.cell_some hxw c1
        clear hj
        go_simp
        try go_bits
        first | rfl | (rw [if_pos (by omega), if_pos (by omega)]; go_simp; rfl) | (rw [if_pos (by omega)]; go_simp; rfl) | skip
      · have a0 := Ext.cell_some hxw a0
        have a1 := Ext.cell_some hxw a1
        have c0 := Ext.cell_some hxw c0
        have c1 := Ext.cell_some hxw c1
        clear hj
        go_simp
        try go_bits
        first | rfl | (rw [if_pos (by omega), if_pos (by omega)]; go_simp; rfl) | (rw [if_pos (by omega)]; go_simp; rfl) | skip
      · have a0 := Ext.cell_some hxw a0
        have a1 := Ext.cell_some hxw a1
        have c0 := Ext.cell_some hxw c0
        have c1 := Ext.cell_some hxw c1
        clear hj
        go_simp
        try go_bits
        first | rfl | (rw [if_pos (by omega), if_pos (by omega)]; go_simp; rfl) | (rw [if_pos (by omega)]; go_simp; rfl) | skip
      · have a0 := Ext.cell_some hxw a0
        have a1 := Ext.cell_some hxw a1
        have c0 := Ext.cell_some hxw c0
        have c1 := Ext.cell_some hxw c1
        clear hj
        go_simp
        try go_bits
        first | rfl | (rw [if_pos (by omega), if_pos (by omega)]; go_simp; rfl) | (rw [if_pos (by omega)]; go_simp; rfl) | skip
      · have a0 := Ext.cell_some hxw a0
        have a1 := Ext.cell_some hxw a1
        have c0 := Ext.cell_some hxw c0
        have c1 := Ext.cell_some hxw c1
        clear hj
        go_simp
        try go_bits
        first | rfl | (rw [if_pos (by omega), if_pos (by omega)]; go_simp; rfl) | (rw [if_pos (by omega)]; go_simp; rfl) | skip
      · have a0 := Ext.cell_some hxw a0
        have a1 := Ext.cell_some hxw a1
        have c0 := Ext.cell_some hxw c0
        have c1 := Ext.cell_some hxw c1
        clear hj
        go_simp
        try go_bits
        first | rfl | (rw [if_pos (by omega), if_pos (by omega)]; go_simp; rfl) | (rw [if_pos (by omega)]; go_simp; rfl) | skip
      · have a0 := Ext.cell_some hxw a0
        have a1 := Ext.cell_some hxw a1
        have c0 := Ext.cell_some hxw c0
        have c1 := Ext.cell_some hxw c1
        clear hj
        go_simp
        try go_bits
        first | rfl | (rw [if_pos (by omega), if_pos (by omega)]; go_simp; rfl) | (rw [if_pos (by omega)]; go_simp; rfl) | skip
      · have a0 := Ext.cell_some hxw a0
        have a1 := Ext.cell_some hxw a1
        have c0 := Ext.cell_some hxw c0
        have c1 := Ext.cell_some hxw c1
        clear hj
        go_simp
        try go_bits
        first | rfl | (rw [if_pos (by omega), if_pos (by omega)]; go_simp; rfl) | (rw [if_pos (by omega)]; go_simp; rfl) | skip
      · have a0 := Ext.cell_some hxw a0
        have a1 := Ext.cell_some hxw a1
        have c0 := Ext.cell_some hxw c0
        have c1 := Ext.cell_some hxw c1
        clear hj
        go_simp
        try go_bits
        first | rfl | (rw [if_pos (by omega), if_pos (by omega)]; go_simp; rfl) | (rw [if_pos (by omega)]; go_simp; rfl) | skip
      · have a0 := Ext.cell_some hxw a0
        have a1 := Ext.cell_some hxw a1
        have c0 := Ext.cell_some hxw c0
        have c1 := Ext.cell_some hxw c1
        clear hj
        go_simp
        try go_bits
        first | rfl | (rw [if_pos (by omega), if_pos (by omega)]; go_simp; rfl) | (rw [if_pos (by omega)]; go_simp; rfl) | skip
      · have a0 := Ext.cell_some hxw a0
        have a1 := Ext.cell_some hxw a1
        have c0 := Ext.cell_some hxw c0
        have c1 := Ext.cell_some hxw c1
        clear hj
        go_simp
        try go_bits
        first | rfl | (rw [if_pos (by omega), if_pos (by omega)]; go_simp; rfl) | (rw [if_pos (by omega)]; go_simp; rfl) | skip
      · have a0 := Ext.cell_some hxw a0
        have a1 := Ext.cell_some hxw a1
        have c0 := Ext.cell_some hxw c0
        have c1 := Ext.cell_some hxw c1
        clear hj
        go_simp
        try go_bits
        first | rfl | (rw [if_pos (by omega), if_pos (by omega)]; go_simp; rfl) | (rw [if_pos (by omega)]; go_simp; rfl) | skip
      · have a0 := Ext.cell_some hxw a0
        have a1 := Ext.cell_some hxw a1
        have c0 := Ext.cell_some hxw c0
        have c1 := Ext.cell_some hxw c1
        clear hj
        go_simp
        try go_bits
        first | rfl | (rw [if_pos (by omega), if_pos (by omega)]; go_simp; rfl) | (rw [if_pos (by omega)]; go_simp; rfl) | skip
      · have a0 := Ext.cell_some hxw a0
        have a1 := Ext.cell_some hxw a1
        have c0 := Ext.cell_some hxw c0
        have c1 := Ext.cell_some hxw c1
        clear hj
        go_simp
        try go_bits
        first | rfl | (rw [if_pos (by omega), if_pos (by omega)]; go_simp; rfl) | (rw [if_pos (by omega)]; go_simp; rfl) | skip
    case' hxr_14_p =>
      intro vs w5 hxr hk
      clear hk
      replace a0 := Ext.cell_some hxr a0
      replace a1 := Ext.cell_some hxr a1
      replace c0 := Ext.cell_some hxr c0
      replace c1 := Ext.cell_some hxr c1
      replace hx := Ext.trans hx hxr
      go_simp
      clear hxr a0 a1 c0 c1
      go_wp2
      go_ret
      exact ⟨ret_bool HN.out.symm, hx⟩
  · subst hL
    obtain ⟨K, rfl, hf⟩ := ShFit.of HD.out.2.2.1.symm
    obtain ⟨K', hKK, hg⟩ := ShFit.of HD.out.2.2.2.symm
    have hK : K' = K := by omega
    subst hK
    obtain ⟨r, hr⟩ : ∃ r, r = decide (langOf K' F 3 = langOf K' G 3) := ⟨_, rfl⟩
    have heq := fun v v' w h h' => equalW_any v v' (langOf K' F 3) (langOf K' G 3) w h h'
    rw [← hr] at heq
    have HN := Lib.hid (show sameSh K' F K' G = r by rw [hr]; exact sameSh_yes HD.out.2.2.1.symm HD.out.2.2.2.symm)
    have HE := Lib.hid (And.intro heq (And.intro hf hg))
    clear heq hr hf hg hKK
    go_enter Tryz.func17, Tryz.ntmps17
    go_wp2
    refine wp_region_inv (by kernel_rfl) (.known ?hxr_15_v0 :: .known (.bool true) :: .known ?hxr_15_v2 :: .known ?hxr_15_v3 :: .known (.bool true) :: .known ?hxr_15_v5 :: .known ?hxr_15_v6 :: .known ?hxr_15_v7 :: .known ?hxr_15_v8 :: .known ?hxr_15_v9 :: .known ?hxr_15_v10 :: .known ?hxr_15_v11 :: .known ?hxr_15_v12 :: .known ?hxr_15_v13 :: .known ?hxr_15_v14 :: .such (WJ (langOf K' F 3)) (WJ.ok _) :: .known ?hxr_15_v16 :: .such (WJ (langOf K' G 3)) (WJ.ok _) :: .known (.bool r) :: .known ?hxr_15_v19 :: .known ?hxr_15_v20 :: []) rfl (by kernel_rfl) ?hxr_15_s ?hxr_15_p
    case hxr_15_s =>
      intro vs
      refine ⟨fun w' hxw hj => ?_, fun w' hxw hj => ?_, fun w' hxw hj => ?_, fun w' hxw hj => ?_, fun w' hxw hj => ?_, fun w' hxw hj => ?_, fun w' hxw hj => ?_, fun w' hxw hj => ?_, fun w' hxw hj => ?_, fun w' hxw hj => ?_, fun w' hxw hj => ?_, fun w' hxw hj => ?_, fun w' hxw hj => ?_, fun w' hxw hj => ?_, fun w' hxw hj => ?_, fun w' hxw hj => ?_, fun w' hxw hj => ?_, fun w' hxw hj => ?_, fun w' hxw hj => ?_, fun w' hxw hj => ?_, fun w' hxw hj => ?_, trivial⟩
      · have a0 := Ext.cell_some hxw a0
        have a1 := Ext.cell_some hxw a1
        have c0 := Ext.cell_some hxw c0
        have c1 := Ext.cell_some hxw c1
        clear hj
        go_simp
        try go_bits
        first | rfl | (rw [if_pos (by omega), if_pos (by omega)]; go_simp; rfl) | (rw [if_pos (by omega)]; go_simp; rfl) | skip
      · have a0 := Ext.cell_some hxw a0
        have a1 := Ext.cell_some hxw a1
        have c0 := Ext.cell_some hxw c0
        have c1 := Ext.cell_some hxw c1
        clear hj
        go_simp
        try go_bits
        exact HD.out.1 _ (HA.out.1.ext (hx.trans hxw))
      · have a0 := Ext.cell_some hxw a0
        have a1 := Ext.cell_some hxw a1
        have c0 := Ext.cell_some hxw c0
        have c1 := Ext.cell_some hxw c1
        clear hj
        go_simp
        try go_bits
        first | rfl | (rw [if_pos (by omega), if_pos (by omega)]; go_simp; rfl) | (rw [if_pos (by omega)]; go_simp; rfl) | skip
      · have a0 := Ext.cell_some hxw a0
        have a1 := Ext.cell_some hxw a1
        have c0 := Ext.cell_some hxw c0
        have c1 := Ext.cell_some hxw c1
        clear hj
        go_simp
        try go_bits
        first | rfl | (rw [if_pos (by omega), if_pos (by omega)]; go_simp; rfl) | (rw [if_pos (by omega)]; go_simp; rfl) | skip
      · have a0 := Ext.cell_some hxw a0
        have a1 := Ext.cell_some hxw a1
        have c0 := Ext.cell_some hxw c0
        have c1 := Ext.cell_some hxw c1
        clear hj
        go_simp
        try go_bits
        exact HD.out.2.1 _ (HA.out.2.1.ext (hx.trans hxw))
      · have a0 := Ext.cell_some hxw a0
        have a1 := Ext.cell_some hxw a1
        have c0 := Ext.cell_some hxw c0
        have c1 := Ext.cell_some hxw c1
        clear hj
        go_simp
        try go_bits
        first | rfl | (rw [if_pos (by omega), if_pos (by omega)]; go_simp; rfl) | (rw [if_pos (by omega)]; go_simp; rfl) | skip
      · have a0 := Ext.cell_some hxw a0
        have a1 := Ext.cell_some hxw a1
        have c0 := Ext.cell_some hxw c0
        have c1 := Ext.cell_some hxw c1
        clear hj
        go_simp
        try go_bits
        first | rfl | (rw [if_pos (by omega), if_pos (by omega)]; go_simp; rfl) | (rw [if_pos (by omega)]; go_simp; rfl) | skip
      · have a0 := Ext.cell_some hxw a0
        have a1 := Ext.cell_some hxw a1
        have c0 := Ext.cell_some hxw c0
        have c1 := Ext.cell_some hxw c1
        clear hj
        go_simp
        try go_bits
        first | rfl | (rw [if_pos (by omega), if_pos (by omega)]; go_simp; rfl) | (rw [if_pos (by omega)]; go_simp; rfl) | skip
      · have a0 := Ext.cell_some hxw a0
        have a1 := Ext.cell_some hxw a1
        have c0 := Ext.cell_some hxw c0
        have c1 := Ext.cell_some hxw c1
        clear hj
        go_simp
        try go_bits
        first | rfl | (rw [if_pos (by omega), if_pos (by omega)]; go_simp; rfl) | (rw [if_pos (by omega)]; go_simp; rfl) | skip
      · have a0 := Ext.cell_some hxw a0
        have a1 := Ext.cell_some hxw a1
        have c0 := Ext.cell_some hxw c0
        have c1 := Ext.cell_some hxw c1
        clear hj
        go_simp
        try go_bits
        first | rfl | (rw [if_pos (by omega), if_pos (by omega)]; go_simp; rfl) | (rw [if_pos (by omega)]; go_simp; rfl) | skip
      · have a0 := Ext.cell_some hxw a0
        have a1 := Ext.cell_some hxw a1
        have c0 := Ext.cell_some hxw c0
        have c1 := Ext.cell_some hxw c1
        clear hj
        go_simp
        try go_bits
        first | rfl | (rw [if_pos (by omega), if_pos (by omega)]; go_simp; rfl) | (rw [if_pos (by omega)]; go_simp; rfl) | skip
      · have a0 := Ext.cell_some hxw a0
        have a1 := Ext.cell_some hxw a1
        have c0 := Ext.cell_some hxw c0
        have c1 := Ext.cell_some hxw c1
        clear hj
        go_simp
        try go_bits
        first | rfl | (rw [if_pos (by omega), if_pos (by omega)]; go_simp; rfl) | (rw [if_pos (by omega)]; go_simp; rfl) | skip
      · have a0 := Ext.cell_some hxw a0
        have a1 := Ext.cell_some hxw a1
        have c0 := Ext.cell_some hxw c0
        have c1 := Ext.cell_some hxw c1
        clear hj
        go_simp
        try go_bits
        first | rfl | (rw [if_pos (by omega), if_pos (by omega)]; go_simp; rfl) | (rw [if_pos (by omega)]; go_simp; rfl) | skip
      · have a0 := Ext.cell_some hxw a0
        have a1 := Ext.cell_some hxw a1
        have c0 := Ext.cell_some hxw c0
        have c1 := Ext.cell_some hxw c1
        clear hj
        go_simp
        try go_bits
        first | rfl | (rw [if_pos (by omega), if_pos (by omega)]; go_simp; rfl) | (rw [if_pos (by omega)]; go_simp; rfl) | skip
      · have a0 := Ext.cell_some hxw a0
        have a1 := Ext.cell_some hxw a1
        have c0 := Ext.cell_some hxw c0
        have c1 := Ext.cell_some hxw c1
        clear hj
        go_simp
        try go_bits
        first | rfl | (rw [if_pos (by omega), if_pos (by omega)]; go_simp; rfl) | (rw [if_pos (by omega)]; go_simp; rfl) | skip
      · have a0 := Ext.cell_some hxw a0
        have a1 := Ext.cell_some hxw a1
        have c0 := Ext.cell_some hxw c0
        have c1 := Ext.cell_some hxw c1
        clear hj
        go_simp
        try go_bits
        exact impl_language3_any K' _ F _ HE.out.2.1 (HA.out.1.ext (hx.trans hxw)) (HA.out.2.2.1.ext (hx.trans hxw))
      · have a0 := Ext.cell_some hxw a0
        have a1 := Ext.cell_some hxw a1
        have c0 := Ext.cell_some hxw c0
        have c1 := Ext.cell_some hxw c1
        clear hj
        go_simp
        try go_bits
        first | rfl | (rw [if_pos (by omega), if_pos (by omega)]; go_simp; rfl) | (rw [if_pos (by omega)]; go_simp; rfl) | skip
      · have a0 := Ext.cell_some hxw a0
        have a1 := Ext.cell_some hxw a1
        have c0 := Ext.cell_some hxw c0
        have c1 := Ext.cell_some hxw c1
        clear hj
        go_simp
        try go_bits
        exact impl_language3_any K' _ G _ HE.out.2.2 (HA.out.2.1.ext (hx.trans hxw)) (HA.out.2.2.1.ext (hx.trans hxw))
      · have a0 := Ext.cell_some hxw a0
        have a1 := Ext.cell_some hxw a1
        have c0 := Ext.cell_some hxw c0
        have c1 := Ext.cell_some hxw c1
        have h15 := hj 15 (by kernel_rfl)
        have h17 := hj 17 (by kernel_rfl)
        clear hj
        go_simp
        try go_bits
        exact HE.out.1 _ _ _ h15 h17
      · have a0 := Ext.cell_some hxw a0
        have a1 := Ext.cell_some hxw a1
        have c0 := Ext.cell_some hxw c0
        have c1 := Ext.cell_some hxw c1
        clear hj
        go_simp
        try go_bits
        first | rfl | (rw [if_pos (by omega), if_pos (by omega)]; go_simp; rfl) | (rw [if_pos (by omega)]; go_simp; rfl) | skip
      · have a0 := Ext.cell_some hxw a0
        have a1 := Ext.cell_some hxw a1
        have c0 := Ext.cell_some hxw c0
        have c1 := Ext.cell_some hxw c1
        clear hj
        go_simp
        try go_bits
        first | rfl | (rw [if_pos (by omega), if_pos (by omega)]; go_simp; rfl) | (rw [if_pos (by omega)]; go_simp; rfl) | skip
    case' hxr_15_p =>
      intro vs w5 hxr hk
      have k15 : (WJ (langOf K' F 3)) (vs 15) w5 := hk 15 _ rfl
      have k17 : (WJ (langOf K' G 3)) (vs 17) w5 := hk 17 _ rfl
      clear hk
      replace a0 := Ext.cell_some hxr a0
      replace a1 := Ext.cell_some hxr a1
      replace c0 := Ext.cell_some hxr c0
      replace c1 := Ext.cell_some hxr c1
      replace hx := Ext.trans hx hxr
      go_simp
      clear k15 k17
      clear hxr a0 a1 c0 c1
      go_wp2
      go_ret
      exact ⟨ret_bool HN.out.symm, hx⟩

set_option maxRecDepth 100000 in
set_option maxHeartbeats 4000000 in
theorem spec_AreSameShift_any (L L' : Int) (v v' : Value) (F G : List (List UInt8)) (w : World) (h : ReadsW w v F) (h' : ReadsW w v' G) (hF : ∀ f ∈ F, f.length ≤ maxLen) (hG : ∀ f ∈ G, f.length ≤ maxLen) :
    Calls Tryz.prog 18 #[.agg #[.int .i64 L, v], .agg #[.int .i64 L', v']] w fun e w' => e = .returned (.bool (sameSh L F L' G)) ∧ Ext w w' := by
  obtain ⟨pa, ca, rfl⟩ := h.slice
  obtain ⟨pb, cb, rfl⟩ := h'.slice
  have hx := (Ext.alloc w (.cells #[.int .i64 L, .slice pa F.length ca] 26)).trans (Ext.alloc _ (.cells #[.int .i64 L', .slice pb G.length cb] 26))
  have b1 : Blk ((w.alloc (.cells #[.int .i64 L, .slice pa F.length ca] 26)).alloc (.cells #[.int .i64 L', .slice pb G.length cb] 26)) w.heap.size #[.int .i64 L, .slice pa F.length ca] := by (repeat (first | (refine Blk.mk' ?_; (simp; done)) | apply Blk.old))
  have b2 : Blk ((w.alloc (.cells #[.int .i64 L, .slice pa F.length ca] 26)).alloc (.cells #[.int .i64 L', .slice pb G.length cb] 26)) (w.heap.size + 1) #[.int .i64 L', .slice pb G.length cb] := by (repeat (first | (refine Blk.mk' ?_; (simp; done)) | apply Blk.old))
  have HA := Lib.hid (And.intro h (And.intro h' (And.intro hF hG)))
  have a0 := b1.cell 0 (.int .i64 L) rfl
  have a1 := b1.cell 1 (.slice pa F.length ca) rfl
  have c0 := b2.cell 0 (.int .i64 L') rfl
  have c1 := b2.cell 1 (.slice pb G.length cb) rfl
  clear h h' hF hG
  obtain ⟨k1, hk1⟩ : ∃ k, k = shiftOk L F := ⟨_, rfl⟩
  obtain ⟨k2, hk2⟩ : ∃ k, k = shiftOk L' G := ⟨_, rfl⟩
  have d1 := fun w h => spec_IsShift_any L (.slice pa F.length ca) F w h HA.out.2.2.1
  have d2 := fun w h => spec_IsShift_any L' (.slice pb G.length cb) G w h HA.out.2.2.2
  rw [← hk1] at d1
  rw [← hk2] at d2
  have HD := Lib.hid (And.intro d1 (And.intro d2 (And.intro hk1 hk2)))
  clear d1 d2 hk1 hk2
  cases k1
  · have HN := Lib.hid (sameSh_no (L := L) (F := F) (L' := L') (G := G) (.inl HD.out.2.2.1.symm))
    go_enter Tryz.func18, Tryz.ntmps18
    go_wp2_with fail
    with_reducible refine (HD.out.1 _ (HA.out.1.ext hx)).mono ?_
    rintro e w1 ⟨rfl, hy⟩
    replace hx := hx.trans hy
    replace a0 := hy.cell_some a0
    replace a1 := hy.cell_some a1
    replace c0 := hy.cell_some c0
    replace c1 := hy.cell_some c1
    replace b1 := b1.ext hy
    replace b2 := b2.ext hy
    clear hy
    go_wp2
    go_ret
    exact ⟨ret_bool HN.out.symm, hx⟩
  cases k2
  · have HN := Lib.hid (sameSh_no (L := L) (F := F) (L' := L') (G := G) (.inr (.inl HD.out.2.2.2.symm)))
    go_enter Tryz.func18, Tryz.ntmps18
    go_wp2_with fail
    with_reducible refine (HD.out.1 _ (HA.out.1.ext hx)).mono ?_
    rintro e w1 ⟨rfl, hy⟩
    replace hx := hx.trans hy
    replace a0 := hy.cell_some a0
    replace a1 := hy.cell_some a1
    replace c0 := hy.cell_some c0
    replace c1 := hy.cell_some c1
    replace b1 := b1.ext hy
    replace b2 := b2.ext hy
    clear hy
    go_wp2_with fail
    with_reducible refine (HD.out.2.1 _ (HA.out.2.1.ext hx)).mono ?_
    rintro e w2 ⟨rfl, hy⟩
    replace hx := hx.trans hy
    replace a0 := hy.cell_some a0
    replace a1 := hy.cell_some a1
    replace c0 := hy.cell_some c0
    replace c1 := hy.cell_some c1
    replace b1 := b1.ext hy
    replace b2 := b2.ext hy
    clear hy
    go_wp2
    go_ret
    exact ⟨ret_bool HN.out.symm, hx⟩
  by_cases hL : L = L'
  rotate_left
  · have HN := Lib.hid (sameSh_no (L := L) (F := F) (L' := L') (G := G) (.inr (.inr hL)))
    have hne : (L != L') = true := by simpa using hL
    clear hL
    go_enter Tryz.func18, Tryz.ntmps18
    go_wp2_with fail
    with_reducible refine (HD.out.1 _ (HA.out.1.ext hx)).mono ?_
    rintro e w1 ⟨rfl, hy⟩
    replace hx := hx.trans hy
    replace a0 := hy.cell_some a0
    replace a1 := hy.cell_some a1
    replace c0 := hy.cell_some c0
    replace c1 := hy.cell_some c1
    replace b1 := b1.ext hy
    replace b2 := b2.ext hy
    clear hy
    go_wp2_with fail
    with_reducible refine (HD.out.2.1 _ (HA.out.2.1.ext hx)).mono ?_
    rintro e w2 ⟨rfl, hy⟩
    replace hx := hx.trans hy
    replace a0 := hy.cell_some a0
    replace a1 := hy.cell_some a1
    replace c0 := hy.cell_some c0
    replace c1 := hy.cell_some c1
    replace b1 := b1.ext hy
    replace b2 := b2.ext hy
    clear hy
    go_wp2
    go_ret
    exact ⟨ret_bool HN.out.symm, hx⟩
  · subst hL
    have HN := Lib.hid (sameSh_yes HD.out.2.2.1.symm HD.out.2.2.2.symm)
    obtain ⟨K, rfl, hf⟩ := ShFit.of HD.out.2.2.1.symm
    obtain ⟨K', hKK, hg⟩ := ShFit.of HD.out.2.2.2.symm
    have hK : K' = K := by omega
    subst hK
    obtain ⟨A, hA⟩ : ∃ A, A = langOf K' F 3 := ⟨_, rfl⟩
    obtain ⟨B, hB⟩ : ∃ B, B = langOf K' G 3 := ⟨_, rfl⟩
    have hsub : (∀ x ∈ A, x ∈ B) → A.length = B.length → A = B := by
      have e1 : langOf K' F 3 = languageL K' F 3 := langOf_yes (n := 3) hf (by omega)
      have e2 : langOf K' G 3 = languageL K' G 3 := langOf_yes (n := 3) hg (by omega)
      rw [hA, hB, e1, e2]
      exact lang_same
    have d1 := fun w h => spec_LanguageOf_any K' 3 (.slice pa F.length ca) F w h HA.out.2.2.1
    have d2 := fun w h => spec_LanguageOf_any K' 3 (.slice pb G.length cb) G w h HA.out.2.2.2
    have hN := HN.out
    rw [← hA] at d1 hN
    rw [← hB] at d2 hN
    replace HN := Lib.hid hN
    have HL := Lib.hid (And.intro d1 (And.intro d2 hsub))
    clear d1 d2 hsub hA hB hf hg hKK hN
    go_enter Tryz.func18, Tryz.ntmps18
    go_wp2_with fail
    with_reducible refine (HD.out.1 _ (HA.out.1.ext hx)).mono ?_
    rintro e w1 ⟨rfl, hy⟩
    replace hx := hx.trans hy
    replace a0 := hy.cell_some a0
    replace a1 := hy.cell_some a1
    replace c0 := hy.cell_some c0
    replace c1 := hy.cell_some c1
    replace b1 := b1.ext hy
    replace b2 := b2.ext hy
    clear hy
    go_wp2_with fail
    with_reducible refine (HD.out.2.1 _ (HA.out.2.1.ext hx)).mono ?_
    rintro e w2 ⟨rfl, hy⟩
    replace hx := hx.trans hy
    replace a0 := hy.cell_some a0
    replace a1 := hy.cell_some a1
    replace c0 := hy.cell_some c0
    replace c1 := hy.cell_some c1
    replace b1 := b1.ext hy
    replace b2 := b2.ext hy
    clear hy
    go_wp2_with fail
    with_reducible refine (HL.out.1 _ (HA.out.1.ext hx)).mono ?_
    rintro e w3 ⟨z1, rfl, hz1, hy⟩
    replace hx := hx.trans hy
    clear a0 a1
    replace c0 := hy.cell_some c0
    replace c1 := hy.cell_some c1
    clear b1 b2
    obtain ⟨p1, n1, rfl⟩ := (Own.readsW hz1).slice
    have HZ := Lib.hid (Own.readsW hz1)
    clear hy hz1
    go_wp2_with fail
    with_reducible refine (HL.out.2.1 _ (HA.out.2.1.ext hx)).mono ?_
    rintro e w4 ⟨z2, rfl, hz2, hy⟩
    replace hx := hx.trans hy
    clear c0 c1
    obtain ⟨p2, n2, rfl⟩ := (Own.readsW hz2).slice
    have HZ2 := Lib.hid (And.intro (HZ.out.ext hy) (Own.readsW hz2))
    obtain ⟨-, hl1, hl2⟩ := HZ.out.len
    clear hy hz2 HZ
    obtain ⟨m, hm⟩ : ∃ m, m = A.length := ⟨_, rfl⟩
    have hZ2 := HZ2.out
    rw [← hm] at hZ2 hl1 ⊢
    replace HZ2 := Lib.hid hZ2
    have HM := Lib.hid hm
    clear hm hZ2
    go_wp2
    go_loop [7] (fun i => ∃ k : Nat, k ≤ m ∧ i = .int .i64 k ∧ ∀ j, j < k → A.getD j [] ∈ B) (fun i => m - (intOf i).toNat)
    case atStart => exact ⟨0, by omega, rfl, fun j hj => by omega⟩
    case round =>
      obtain ⟨k, hk, rfl, hp⟩ := hrel
      have HP := Lib.hid hp
      clear hp
      by_cases hlt : k < m
      · have hkm : k < A.length := by rw [← HM.out]; exact hlt
        obtain ⟨b, o, rfl, hcell⟩ := HZ2.out.1.at k hkm
        have hmem : A.getD k [] ∈ A := by
          rw [List.getD_eq_getElem?_getD, List.getElem?_eq_getElem hkm]
          exact List.getElem_mem hkm
        obtain ⟨x, hx'⟩ : ∃ x, x = A.getD k [] := ⟨_, rfl⟩
        rw [← hx'] at hcell hmem
        have HX := Lib.hid (And.intro hmem hx')
        clear hmem hx' hkm
        go_wp2_with fail
        with_reducible refine (spec_l2HasText_any _ B x _ HZ2.out.2).mono ?_
        rintro e w5 ⟨rfl, rfl⟩
        cases hb : (B.any fun u => u == x)
        · have HF := Lib.hid (show sameSh K' F K' G = false by
            rw [HN.out, decide_eq_false]
            intro e
            have h1 := HX.out.1
            rw [e] at h1
            rw [List.any_eq_false] at hb
            exact hb x h1 (by simp))
          go_wp2
          go_ret
          exact ⟨ret_bool HF.out.symm, hx⟩
        · have HB := Lib.hid (show x ∈ B by
            rw [List.any_eq_true] at hb
            obtain ⟨y, h1, h2⟩ := hb
            have : y = x := by simpa using h2
            rw [← this]; exact h1)
          clear hb
          go_wp2
          go_round
          case rel => exact ⟨k + 1, by omega, by go_num, fun j hj => by
            by_cases e : j = k
            · subst e; rw [← HX.out.2]; exact HB.out
            · exact HP.out j (by omega)⟩
          case measure => simp [intOf]; omega
      · have hkn : k = m := by omega
        have HF := Lib.hid (show sameSh K' F K' G = decide ((m : Int) = (B.length : Int)) by
          rw [HN.out, decide_eq_decide]
          constructor
          · intro e
            rw [HM.out, e]
          · intro e
            refine HL.out.2.2 (fun x hx => ?_) (by have := HM.out; omega)
            obtain ⟨j, hj, rfl⟩ := List.mem_iff_getElem.1 hx
            have := HP.out j (by rw [hkn, HM.out]; exact hj)
            rwa [List.getD_eq_getElem?_getD, List.getElem?_eq_getElem hj, Option.getD_some] at this)
        go_wp2
        go_ret
        exact ⟨ret_bool (by rw [HF.out]; rfl), hx⟩
end Go.Proofs.YtfiembmfkokllaaGreat

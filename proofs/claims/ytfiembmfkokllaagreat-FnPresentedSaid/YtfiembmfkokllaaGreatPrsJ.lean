/- Plain facts: what the law says of the common values. -/
import Derived.Test.YtfiembmfkokllaaGreatPrsG
import Derived.Test.YtfiembmfkokllaaGreatPrsB
import Derived.Test.YtfiembmfkokllaaGreatCntB
import Derived.Test.YtfiembmfkokllaaGreatSameSh
import Derived.Test.YtfiembmfkokllaaGreatMeetB
namespace Go.Proofs.YtfiembmfkokllaaGreat
open Go.RowKit Go.Cm Go.Mx

theorem lang2_mem {K : Nat} {F : List (List UInt8)} (u : List UInt8) : u ∈ statesL K F ↔ u ∈ languageL K F 2 := by
  constructor
  · exact word_in2
  · intro h
    have h1 := List.mem_filter.1 h
    exact (has_two (fun v hv => statesL_avoid hv) (words_len h1.1)).1 h1.2
theorem lang2_nodup {K : Nat} {F : List (List UInt8)} (hf : ShFit K F) : (languageL K F 2).Nodup := (wordsL_nodup (by have := hf.k1; omega) hf.k3 2).filter _
theorem graph_at {F st : List (List UInt8)} {i j : Nat} (hi : i < st.length) (hj : j < st.length) : at2 (graphT F st) i j = if adjL F (st.getD i []) (st.getD j []) = true then 1 else 0 := by
  show ((tabF st.length st.length (gF F st)).getD i []).getD j 0 = _
  rw [tabF_at _ _ _ _ _ hi hj]
  rfl
theorem lang_graph {K : Nat} {F : List (List UInt8)} (hf : ShFit K F) (p : Nat) : sumN (languageL K F 2).length (colC (at2 (graphT F (languageL K F 2))) (languageL K F 2).length p) = ((languageL K F (p + 2)).length : Int) := by
  have h1 := hf.k1
  rw [lang_paths (by omega) hf.k3 (fun f hm => (hf.word f hm).2.2) p, paths_all (lang2_nodup hf) (fun u => lang2_mem u) p, ← sumN_list]
  apply sumN_congr
  intro i hi
  exact col_paths (by omega) hf.k3 (lang2_nodup hf) (fun u => lang2_mem u) (fun u hu => (List.mem_filter.1 hu).1) (fun i j hi hj => graph_at hi hj) p i hi
/-- the count is the number of the words -/
theorem count_lang {L n : Int} {F : List (List UInt8)} (h : 0 ≤ cntW L F n) (h6 : n ≤ 6) : cntW L F n = ((langOf L F n).length : Int) := by
  have hs : shiftOk L F = true := by
    cases e : shiftOk L F with
    | true => rfl
    | false => rw [cntW_no (.inl e)] at h; omega
  have hn : 0 ≤ n := by
    refine Decidable.byContradiction fun e => ?_
    rw [cntW_no (.inr (.inl (by omega)))] at h
    omega
  obtain ⟨K, rfl, hf⟩ := ShFit.of hs
  obtain ⟨q, rfl⟩ := Int.eq_ofNat_of_zero_le hn
  by_cases h2 : q < 2
  · exact cntW_low hs hn (by omega)
  obtain ⟨p, rfl⟩ : ∃ p, q = p + 2 := ⟨q - 2, by omega⟩
  rw [langOf_yes hf (by omega)]
  have e2 : langOf K F 2 = languageL K F 2 := langOf_yes (n := 2) hf (by omega)
  have hlg := lang_graph hf p
  have hgo : graphO K F = if (langOf K F 2).length = 0 then none else some (graphT F (langOf K F 2)) := rfl
  rw [e2] at hgo
  by_cases h0 : (languageL K F 2).length = 0
  · rw [if_pos h0] at hgo
    rw [cntW_none hs (by omega) (by omega) hgo, ← hlg, h0]
    rfl
  · rw [if_neg h0] at hgo
    rw [cntW_some hs (by omega) (by omega) hgo, ← hlg, show (((p + 2 : Nat) : Int) - 2).toNat = p by omega]
    have : (graphT F (languageL K F 2)).length = (languageL K F 2).length := tabF_length _ _ _
    rw [this]
/-- the graph is busy -/
theorem graph_busy {L : Int} {F : List (List UInt8)} {m : List (List Int)} (h : graphO L F = some m) : Busy m ∧ isMat m = true ∧ m.length = (langOf L F 2).length := by
  have h0 : ¬ (langOf L F 2).length = 0 := by
    intro e
    unfold graphO at h
    rw [if_pos e] at h
    cases h
  obtain ⟨K, rfl, hf, e2⟩ := lang2_ok h0
  have hm : m = graphT F (languageL K F 2) := by
    unfold graphO at h
    rw [if_neg h0, e2] at h
    exact (Option.some.inj h).symm
  have hl : m.length = (languageL K F 2).length := by rw [hm]; exact tabF_length _ _ _
  have h01 := graph_01 h
  refine ⟨fun i hi => ?_, ?_, by rw [hl, e2]⟩
  · rw [hl] at hi ⊢
    have hu : (languageL K F 2).getD i [] ∈ languageL K F 2 := by rw [List.getD_eq_getElem?_getD, List.getElem?_eq_getElem hi]; exact List.getElem_mem hi
    obtain ⟨⟨v, hv, ha⟩, ⟨x, hx, hb⟩⟩ := states_goes ((lang2_mem _).2 hu)
    have idx : ∀ v ∈ statesL K F, ∃ j, j < (languageL K F 2).length ∧ (languageL K F 2).getD j [] = v := by
      intro v hv
      obtain ⟨j, hj, e⟩ := List.mem_iff_getElem.1 ((lang2_mem v).1 hv)
      exact ⟨j, hj, by rw [List.getD_eq_getElem?_getD, List.getElem?_eq_getElem hj]; exact e⟩
    obtain ⟨j, hj, ej⟩ := idx v hv
    obtain ⟨j', hj', ej'⟩ := idx x hx
    refine ⟨⟨j, hj, ?_⟩, ⟨j', hj', ?_⟩⟩
    · rw [hm, graph_at hi hj, ej, if_pos ha]; decide
    · rw [hm, graph_at hj' hi, ej', if_pos hb]; decide
  · have := tabF_isMat (F := at2 m) h01.1.1 h01.1.2 fun i j _ _ => by have := h01.2.2 i j; omega
    rwa [tabF_of rfl h01.2.1] at this
theorem putsR_iff {cs : List (List UInt8)} {z : List UInt8} : z ∈ putsR cs ↔ z ∈ cs := by
  have := meetR_mem cs (F := []) (z := z)
  exact show z ∈ meetR [] cs ↔ z ∈ cs by simpa using this
theorem asc_less {R : List (List UInt8)} (h : Asc R) (j : Nat) (hj : j + 1 < R.length) : lessW (R.getD j []) (R.getD (j + 1) []) = true := by
  rw [lessW_iff, List.getD_eq_getElem?_getD, List.getD_eq_getElem?_getD, List.getElem?_eq_getElem hj, List.getElem?_eq_getElem (show j < R.length by omega)]
  exact List.pairwise_iff_getElem.1 h j (j + 1) (by omega) hj (by omega)
/-- the least forbidden words give the same shift -/
theorem forb_same {L : Int} {F R : List (List UInt8)} (h : forbO L F = some R) : sameSh (forbL L F) R L F = true := by
  have hL : forbL L F = L := by unfold forbL; rw [h]; rfl
  rw [hL]
  obtain ⟨K, rfl, hf, h0, h8, hR⟩ := forbO_some h
  have h1 := hf.k1
  have hiff : ∀ w, w ∈ R ↔ IsMin K F w := fun w => by rw [hR, putsR_iff]; exact cand_iff (by omega) hf.k3 F w
  have hfR : ShFit K R := ⟨hf.k1, hf.k3, h8, fun f hm => ⟨((hiff f).1 hm).2.1, ((hiff f).1 hm).1.1, ((hiff f).1 hm).1.2⟩, fun j hj => asc_less (by rw [hR]; exact putsR_asc _) j hj⟩
  rw [sameSh_yes hfR.ok hf.ok, decide_eq_true_iff]
  have e1 : langOf K R 3 = languageL K R 3 := langOf_yes (n := 3) hfR (by omega)
  have e2 : langOf K F 3 = languageL K F 3 := langOf_yes (n := 3) hf (by omega)
  rw [e1, e2]
  exact lang_min_same (by omega) hf.k3 hiff h0
/-- the words of a meeting are words of both -/
theorem meet_words {L L' : Int} {F G X : List (List UInt8)} (h : meetO L F L' G = some X) : ∃ K : Nat, L = K ∧ L' = K ∧ meetL L F L' G = K ∧ ShFit K F ∧ ShFit K G ∧ ∀ w ∈ langOf K X 3, areLet K w = true ∧ w.length ≤ 16 ∧ hasL F (statesL K F) w = true ∧ hasL G (statesL K G) w = true := by
  have hL : meetL L F L' G = L := by unfold meetL; rw [h]; rfl
  unfold meetO at h
  split at h
  · next h1 =>
    rw [Bool.and_eq_true, Bool.and_eq_true, decide_eq_true_eq] at h1
    obtain ⟨hF, hG, rfl⟩ := h1
    obtain ⟨K, rfl, hf⟩ := ShFit.of hF
    obtain ⟨K', e, hg⟩ := ShFit.of hG
    obtain rfl : K = K' := by omega
    split at h
    · next h8 =>
      cases h
      have hx : shiftOk K (meetR F G) = true := by rw [meet_ok hf hg]; simpa using h8
      obtain ⟨K', e, hfx⟩ := ShFit.of hx
      obtain rfl : K = K' := by omega
      have hk1 := hf.k1
      refine ⟨K, rfl, rfl, hL, hf, hg, fun w hw => ?_⟩
      have e3 : langOf K (meetR F G) 3 = languageL K (meetR F G) 3 := langOf_yes (n := 3) hfx (by omega)
      rw [e3] at hw
      obtain ⟨h1, h2⟩ := List.mem_filter.1 hw
      obtain ⟨hl, ha⟩ := (wordsL_iff (by omega) hf.k3).1 h1
      exact ⟨ha, by omega, has_fewer (fun f hm => (meetR_mem _).2 (.inl hm)) (by omega) h2, has_fewer (fun f hm => (meetR_mem _).2 (.inr hm)) (by omega) h2⟩
    · cases h
  · cases h
end Go.Proofs.YtfiembmfkokllaaGreat

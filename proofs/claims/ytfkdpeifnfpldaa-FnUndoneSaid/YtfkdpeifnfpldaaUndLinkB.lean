/- One-to-one codes are onto; codes that can be undone are one-to-one. No program in sight. -/
import Derived.Test.YtfkdpeifnfpldaaUndLink
namespace Go.Cm

theorem getD_ne {a b : List UInt8} (hl : a.length = b.length) (hne : a ≠ b) : ∃ j, j < a.length ∧ a.getD j 0 ≠ b.getD j 0 := by
  apply Classical.byContradiction
  intro hno
  refine hne (List.ext_getElem hl fun j h1 h2 => ?_)
  apply Classical.byContradiction
  intro h3
  refine hno ⟨j, h1, ?_⟩
  rw [List.getD_eq_getElem?_getD, List.getD_eq_getElem?_getD, List.getElem?_eq_getElem h1, List.getElem?_eq_getElem h2]
  exact h3
theorem part_getD {W i j : Nat} {u : List UInt8} (hj : j < W) : (partL W i u).getD j 0 = u.getD (i + j) 0 := by
  unfold partL
  rw [List.getD_eq_getElem?_getD, List.getElem?_take_of_lt hj, List.getElem?_drop, ← List.getD_eq_getElem?_getD]
theorem part_succ {m i : Nat} {u : List UInt8} (h : i + m < u.length) : partL (m + 1) i u = partL m i u ++ [u.getD (i + m) 0] := by
  unfold partL
  rw [List.take_succ_eq_append_getElem (by simp; omega), List.getD_eq_getElem?_getD, List.getElem?_eq_getElem h]
  simp
theorem part_next {m i : Nat} {u : List UInt8} : (partL (m + 1) i u).drop 1 = partL m (i + 1) u := by
  unfold partL
  rw [List.drop_take, List.drop_drop, show m + 1 - 1 = m by omega]
theorem getD_isLet {k : Int} {u : List UInt8} {j : Nat} (h : areLet k u = true) (hj : j < u.length) : isLet k (u.getD j 0) = true := isLet_getD h hj
/-- the state behind a step -/
theorem part_step {K m i : Nat} (hK : K ≤ 3) {u : List UInt8} (ha : areLet K u = true) (h : i + m < u.length) : ∃ x, x < K ∧ idxL K (partL (m + 1) i u) = idxL K (partL m i u) * K + x ∧ idxL K (partL m (i + 1) u) = (idxL K (partL m i u) * K + x) % K ^ m := by
  obtain ⟨x, hx, hl⟩ := letN_of hK (c := u.getD (i + m) 0) (by have := getD_isLet ha h; simpa [areLet] using this)
  have e : idxL K (partL (m + 1) i u) = idxL K (partL m i u) * K + x := by
    rw [part_succ h, idxL_snoc, hl, letN_num (by omega)]
  refine ⟨x, hx, e, ?_⟩
  have ht := idx_tail (K := K) (m := m) (partL (m + 1) i u) (partL_length (by omega)) (areLet_part (m + 1) i ha)
  rw [part_next] at ht
  rw [ht, e]
theorem apply_at {K m i : Nat} {o : ByteArray} {u : List UInt8} (h : i + m < u.length) : (applyL K (m + 1) o u).getD i 0 = givesL K o (partL (m + 1) i u) := by
  unfold applyL
  rw [List.getD_eq_getElem?_getD, List.getElem?_map, List.getElem?_range (by omega)]
  rfl

/-- One-to-one codes are onto. -/
theorem one_onto {K m : Nat} (hK2 : 2 ≤ K) (hK : K ≤ 3) {o : ByteArray} (hos : o.size = K ^ (m + 1)) (hoa : areLet K o.data.toList = true) (h1 : oneB K (m + 1) o = true) (w : List UInt8) (hw : areLet K w = true) : 0 < srcN K (m + 1) o w := by
  apply Classical.byContradiction
  intro hno
  have hK0 : 0 < K := by omega
  obtain ⟨a, b, hne, hl, hla, hp, hq, hi, ha, hb⟩ := orphan_twins (K := K) (n := m + 1) (by omega) hK0 hK o hos hoa hw (by omega)
  rw [Nat.add_sub_cancel] at hla hp hq
  have same : ∀ i, i + m < a.length → givesL K o (partL (m + 1) i a) = givesL K o (partL (m + 1) i b) := fun i h => by
    rw [← apply_at h, ← apply_at (by omega), hi]
  obtain ⟨j, hj, hjne⟩ := getD_ne hl hne
  by_cases hm : m = 0
  · subst hm
    have h2 : injB o = true := by
      unfold oneB at h1
      rwa [if_pos rfl] at h1
    obtain ⟨x, hx, hx1, -⟩ := part_step (m := 0) hK ha (show j + 0 < a.length by omega)
    obtain ⟨y, hy, hy1, -⟩ := part_step (m := 0) hK hb (show j + 0 < b.length by omega)
    have hs := same j (by omega)
    unfold givesL at hs
    rw [hx1, hy1] at hs
    have z : ∀ i (u : List UInt8), idxL K (partL 0 i u) = 0 := fun i u => by simp [partL, idxL]
    rw [z, z, Nat.zero_mul, Nat.zero_add, Nat.zero_add] at hs
    simp only [z, Nat.zero_mul, Nat.zero_add] at hx1 hy1
    have hxy : x ≠ y := by
      intro e
      have h3 := idxL_inj hK (areLet_part 1 j ha) (areLet_part 1 j hb) (by rw [partL_length (by omega), partL_length (by omega)]) (hx1.trans (e.trans hy1.symm))
      have h4 := congrArg (fun l => l.getD 0 0) h3
      simp only [part_getD (show 0 < 1 by omega), Nat.add_zero] at h4
      exact hjne h4
    have hsz : o.size = K := by rw [hos]; simp
    unfold injB at h2
    rw [List.all_eq_true] at h2
    rcases Nat.lt_or_gt_of_ne hxy with h | h
    · have h3 := h2 y (List.mem_range.2 (by omega))
      rw [List.all_eq_true] at h3
      have h4 := h3 x (List.mem_range.2 h)
      rw [hs] at h4
      simp at h4
    · have h3 := h2 x (List.mem_range.2 (by omega))
      rw [List.all_eq_true] at h3
      have h4 := h3 y (List.mem_range.2 h)
      rw [hs] at h4
      simp at h4
  · obtain ⟨N, hN⟩ : ∃ N, N = K ^ m := ⟨_, rfl⟩
    have hN0 : 0 < N := by rw [hN]; exact Nat.pow_pos hK0
    have hlen : (stepsL K N o).length = N * N := stepsL_length K N o
    have hst : ∀ {u : List UInt8} {i}, areLet K u = true → i + m ≤ u.length → idxL K (partL m i u) < N := fun {u i} hu hiu => by
      have := idxL_lt K _ (areLet_part m i hu)
      rwa [partL_length hiu, ← hN] at this
    have hlive := lively_of (next := stepsL K N o) (fun p => (∃ u, u < N ∧ p = u * N + u) ∨ ∃ i, i + m ≤ a.length ∧ p = idxL K (partL m i a) * N + idxL K (partL m i b)) (fun p hp => by
      have diag : ∀ u, u < N → (u * N + u < (stepsL K N o).length ∧ (∃ q, ((∃ u, u < N ∧ q = u * N + u) ∨ ∃ i, i + m ≤ a.length ∧ q = idxL K (partL m i a) * N + idxL K (partL m i b)) ∧ q ∈ (stepsL K N o).getD (u * N + u) []) ∧ ∃ q, ((∃ u, u < N ∧ q = u * N + u) ∨ ∃ i, i + m ≤ a.length ∧ q = idxL K (partL m i a) * N + idxL K (partL m i b)) ∧ u * N + u ∈ (stepsL K N o).getD q []) := by
        intro u hu
        refine ⟨by rw [hlen]; exact pair_lt hu hu, ⟨(u * K + 0) % N * N + (u * K + 0) % N, .inl ⟨_, Nat.mod_lt _ hN0, rfl⟩, ?_⟩, ⟨u / K * N + u / K, .inl ⟨_, Nat.lt_of_le_of_lt (Nat.div_le_self u K) hu, rfl⟩, ?_⟩⟩
        · rw [row_pair hu hu, mem_row]
          exact ⟨0, hK0, 0, hK0, rfl, rfl⟩
        · have hq : u / K < N := Nat.lt_of_le_of_lt (Nat.div_le_self u K) hu
          rw [row_pair hq hq, mem_row]
          refine ⟨u % K, Nat.mod_lt _ hK0, u % K, Nat.mod_lt _ hK0, rfl, ?_⟩
          rw [Nat.div_add_mod', Nat.mod_eq_of_lt hu]
      rcases hp with ⟨u, hu, rfl⟩ | ⟨i, hi, rfl⟩
      · exact diag u hu
      · have step : ∀ i, i + m < a.length → idxL K (partL m (i + 1) a) * N + idxL K (partL m (i + 1) b) ∈ (stepsL K N o).getD (idxL K (partL m i a) * N + idxL K (partL m i b)) [] := by
          intro i hi
          obtain ⟨x, hx, hx1, hx2⟩ := part_step hK ha hi
          obtain ⟨y, hy, hy1, hy2⟩ := part_step hK hb (show i + m < b.length by omega)
          rw [row_pair (hst ha (by omega)) (hst hb (by omega)), mem_row]
          refine ⟨x, hx, y, hy, ?_, by rw [hx2, hy2, ← hN]⟩
          have hs := same i hi
          unfold givesL at hs
          rwa [hx1, hy1] at hs
        refine ⟨by rw [hlen]; exact pair_lt (hst ha hi) (hst hb (by omega)), ?_, ?_⟩
        · by_cases hlt : i + m < a.length
          · exact ⟨_, .inr ⟨i + 1, by omega, rfl⟩, step i hlt⟩
          · have hie : i = a.length - m := by omega
            have e : partL m i a = partL m i b := by
              unfold partL
              rw [hie, hq]
            rw [← e]
            exact (diag _ (hst ha hi)).2.1
        · cases i with
          | zero =>
            have e : partL m 0 a = partL m 0 b := by
              unfold partL
              rw [List.drop_zero, List.drop_zero, hp]
            rw [← e]
            exact (diag _ (hst ha hi)).2.2
          | succ i => exact ⟨_, .inr ⟨i, by omega, rfl⟩, step i (by omega)⟩)
    -- a place off the diagonal
    obtain ⟨i, hi1, hi2, hi3⟩ : ∃ i, i + m ≤ a.length ∧ i ≤ j ∧ j < i + m := by
      by_cases h : j + m ≤ a.length
      · exact ⟨j, h, Nat.le_refl _, by omega⟩
      · exact ⟨a.length - m, by omega, by omega, by omega⟩
    have hlv := hlive _ (.inr ⟨i, hi1, rfl⟩)
    have hne2 : idxL K (partL m i a) ≠ idxL K (partL m i b) := by
      intro e
      have h3 := idxL_inj hK (areLet_part m i ha) (areLet_part m i hb) (by rw [partL_length hi1, partL_length (by omega)]) e
      have h4 := congrArg (fun l => l.getD (j - i) 0) h3
      simp only [part_getD (show j - i < m by omega), show i + (j - i) = j by omega] at h4
      exact hjne h4
    unfold oneB at h1
    rw [if_neg (by omega), Nat.add_sub_cancel, ← hN, List.all_eq_true] at h1
    have hbN : idxL K (partL m i b) < N := hst hb (by omega)
    have h5 := h1 _ (List.mem_range.2 (pair_lt (hst ha hi1) hbN))
    unfold diagB at h5
    rw [hlv, (pair_div hbN).1, (pair_div hbN).2] at h5
    simp [hne2] at h5
end Go.Cm

/- A code that can be undone is one-to-one. No program in sight. -/
import Derived.Test.YtfkdpeifnfpldaaUndLinkC
namespace Go.Cm

theorem set_getD {t : List UInt8} {i j : Nat} {c : UInt8} (hj : j ≠ i) : (t.set i c).getD j 0 = t.getD j 0 := by
  rw [List.getD_eq_getElem?_getD, List.getElem?_set_ne (Ne.symm hj), ← List.getD_eq_getElem?_getD]
theorem rep_getD {M x j : Nat} (hj : j < M) : (List.replicate M (letN x)).getD j 0 = letN x := by
  rw [List.getD_eq_getElem?_getD, List.getElem?_replicate, if_pos hj]
  rfl
theorem rep_let {K M x : Nat} (hK0 : 0 < K) (hK : K ≤ 3) (hx : x < K) : areLet K (List.replicate M (letN x)) = true := by
  unfold areLet
  rw [List.all_eq_true]
  intro c hc
  rw [List.eq_of_mem_replicate hc]
  exact letN_isLet hK0 hK hx
theorem set_let {k : Int} {t : List UInt8} {i : Nat} {c : UInt8} (ht : areLet k t = true) (hc : isLet k c = true) : areLet k (t.set i c) = true := by
  unfold areLet at *
  rw [List.all_eq_true] at *
  intro d hd
  rcases List.mem_or_eq_of_mem_set hd with h | h
  · exact ht d h
  · rw [h]; exact hc

/-- words of one image have one letter at the place: the code is one-to-one -/
theorem undone_one {K m M a : Nat} (hK0 : 0 < K) (hK : K ≤ 3) (hM : 1 ≤ M) (ha : a < m + M) {o : ByteArray} (hos : o.size = K ^ (m + 1))
    (hu : ∀ w w' : List UInt8, areLet K w = true → areLet K w' = true → w.length = m + M → w'.length = m + M → applyL K (m + 1) o w = applyL K (m + 1) o w' → w.getD a 0 = w'.getD a 0) : oneB K (m + 1) o = true := by
  unfold oneB
  by_cases hm : m = 0
  · subst hm
    rw [if_pos rfl]
    have hsz : o.size = K := by rw [hos]; simp
    unfold injB
    rw [List.all_eq_true]
    intro i hi
    have hi := List.mem_range.1 hi
    rw [List.all_eq_true]
    intro k hk
    have hk := List.mem_range.1 hk
    rw [Bool.not_eq_true', decide_eq_false_iff_not]
    intro he
    rw [Nat.zero_add] at ha hu
    have hi' : i < K := by omega
    have hk' : k < K := by omega
    have hl1 : (List.replicate M (letN i)).length = M := by simp
    have hl2 : ((List.replicate M (letN i)).set a (letN k)).length = M := by simp
    have h1 := hu (List.replicate M (letN i)) ((List.replicate M (letN i)).set a (letN k)) (rep_let hK0 hK hi') (set_let (rep_let hK0 hK hi') (letN_isLet hK0 hK hk')) hl1 hl2 ?_
    · rw [rep_getD ha, getD_set (by rw [hl1]; exact ha), if_pos rfl] at h1
      have := congrArg (fun c : UInt8 => c.toNat - 97) h1
      simp only [letN_num (show i < 100 by omega), letN_num (show k < 100 by omega)] at this
      omega
    · have one : ∀ c : UInt8, ∀ u : List UInt8, ∀ j, j < u.length → u.getD j 0 = c → partL 1 j u = [c] := by
        intro c u j hj hc
        have h2 := part_succ (m := 0) (i := j) (u := u) (by omega)
        rw [show partL 0 j u = [] by simp [partL], show j + 0 = j from rfl, hc] at h2
        exact h2
      refine List.ext_getElem (by rw [applyL_length, applyL_length, hl1, hl2]) fun j h2 h3 => ?_
      have hj : j < M := by rw [applyL_length, hl1] at h2; omega
      simp only [applyL, List.getElem_map, List.getElem_range]
      rw [one (letN i) _ j (by rw [hl1]; exact hj) (rep_getD hj)]
      by_cases e : j = a
      · subst e
        rw [one (letN k) _ j (by rw [hl2]; exact hj) (by rw [getD_set (by rw [hl1]; exact ha), if_pos rfl])]
        unfold givesL
        simp only [idxL, List.foldl_cons, List.foldl_nil, Nat.zero_mul, Nat.zero_add, letN_num (show i < 100 by omega), letN_num (show k < 100 by omega)]
        exact he
      · rw [one (letN i) ((List.replicate M (letN i)).set a (letN k)) j (by rw [hl2]; exact hj) (by rw [set_getD e, rep_getD hj])]
  · rw [if_neg (by omega), Nat.add_sub_cancel, List.all_eq_true]
    intro p hp
    have hp := List.mem_range.1 hp
    obtain ⟨N, hN⟩ : ∃ N, N = K ^ m := ⟨_, rfl⟩
    rw [← hN] at hp ⊢
    have hN0 : 0 < N := by rw [hN]; exact Nat.pow_pos hK0
    unfold diagB
    rw [Bool.not_eq_true']
    cases hl : (livelyL (stepsL K N o)).getD p false with
    | false => rfl
    | true =>
      rw [Bool.true_and, Bool.not_eq_false', decide_eq_true_eq]
      apply Classical.byContradiction
      intro hne
      obtain ⟨J, hJ⟩ : ∃ J, J = m + M := ⟨_, rfl⟩
      rw [← hJ] at hu ha
      obtain ⟨x, y, hx1, hy1, hx2, hy2, hb⟩ := bwd hK0 hK (by omega) hN J p hl
      obtain ⟨x', y', hx3, hy3, hx4, hy4, hf⟩ := fwd hK0 hK hN J p hl
      obtain ⟨U, hU⟩ : ∃ U, U = wordL K m (p / N) := ⟨_, rfl⟩
      obtain ⟨V, hV⟩ : ∃ V, V = wordL K m (p % N) := ⟨_, rfl⟩
      have hUl : U.length = m := by rw [hU, wordL_length]
      have hVl : V.length = m := by rw [hV, wordL_length]
      have hUa : areLet K U = true := by rw [hU]; exact areLet_wordL K hK0 hK _ _
      have hVa : areLet K V = true := by rw [hV]; exact areLet_wordL K hK0 hK _ _
      have hUV : U ≠ V := by
        intro e
        rw [hU, hV] at e
        have h1 := congrArg (idxL K) e
        rw [idxL_wordL K hK0 hK m _ (by rw [← hN]; exact Nat.div_lt_of_lt_mul hp), idxL_wordL K hK0 hK m _ (by rw [← hN]; exact Nat.mod_lt _ hN0)] at h1
        exact hne h1
      rw [← hU, ← hV] at hb hf
      -- one image
      have cat : ∀ (x U x' : List UInt8), x.length = J → U.length = m → applyL K (m + 1) o (x ++ U ++ x') = applyL K (m + 1) o (x ++ U) ++ applyL K (m + 1) o (U ++ x') := by
        intro x U x' hx hU
        have h1 := applyL_take (K := K) (n := m + 1) (by omega) o (x ++ U ++ x') J (by simp; omega)
        have h2 := applyL_drop (K := K) (n := m + 1) (by omega) o (x ++ U ++ x') J
        rw [show J + (m + 1 - 1) = (x ++ U).length by simp; omega, List.take_left] at h1
        rw [List.append_assoc, ← hx, List.drop_left] at h2
        rw [← List.append_assoc, hx] at h2
        rw [← List.take_append_drop J (applyL K (m + 1) o (x ++ U ++ x')), h1, h2]
      have himg : applyL K (m + 1) o (x ++ U ++ x') = applyL K (m + 1) o (y ++ V ++ y') := by
        rw [cat x U x' hx1 hUl, cat y V y' hy1 hVl, hb, hf]
      obtain ⟨i, hi, hine⟩ := getD_ne (hUl.trans hVl.symm) hUV
      have hWl : (x ++ U ++ x').length = J + m + J := by simp; omega
      have hWl' : (y ++ V ++ y').length = J + m + J := by simp; omega
      have hWa : areLet K (x ++ U ++ x') = true := by rw [areLet_append, areLet_append, hx2, hUa, hx4]; rfl
      have hWa' : areLet K (y ++ V ++ y') = true := by rw [areLet_append, areLet_append, hy2, hVa, hy4]; rfl
      have at1 : ∀ (x U x' : List UInt8), x.length = J → U.length = m → (x ++ U ++ x').getD (J + i) 0 = U.getD i 0 := by
        intro x U x' hx hU
        rw [List.getD_eq_getElem?_getD, List.append_assoc, List.getElem?_append_right (by omega), hx, Nat.add_sub_cancel_left, List.getElem?_append_left (by omega), ← List.getD_eq_getElem?_getD]
      have win : ∀ W : List UInt8, W.length = J + m + J → applyL K (m + 1) o (partL J (J + i - a) W) = ((applyL K (m + 1) o W).drop (J + i - a)).take M := by
        intro W hW
        rw [applyL_drop (by omega), applyL_take (by omega) o _ M (by rw [List.length_drop]; omega)]
        unfold partL
        rw [show M + (m + 1 - 1) = J by omega]
      have h1 := hu (partL J (J + i - a) (x ++ U ++ x')) (partL J (J + i - a) (y ++ V ++ y')) (areLet_part _ _ hWa) (areLet_part _ _ hWa') (partL_length (by rw [hWl]; omega)) (partL_length (by rw [hWl']; omega)) (by rw [win _ hWl, win _ hWl', himg])
      rw [part_getD ha, part_getD ha, show J + i - a + a = J + i by omega, at1 x U x' hx1 hUl, at1 y V y' hy1 hVl] at h1
      exact hine h1
/-- A code that is undone by a table is one-to-one. -/
theorem undoL_one {K n M a : Nat} (hK0 : 0 < K) (hK : K ≤ 3) (hn : 1 ≤ n) (hM : 1 ≤ M) (ha : a < n + M - 1) {o : ByteArray} (hos : o.size = K ^ n) (hoa : areLet K o.data.toList = true) {t : List UInt8} (h : undoL K n M a o = some t) : oneB K n o = true := by
  obtain ⟨m, rfl⟩ : ∃ m, n = m + 1 := ⟨n - 1, by omega⟩
  obtain ⟨-, -, h1⟩ := undoL_good hK0 hK hn hM ha hos hoa h
  refine undone_one (a := a) (M := M) hK0 hK hM (by omega) hos fun w w' hw hw' hl hl' he => ?_
  rw [← h1 w hw (by omega), ← h1 w' hw' (by omega), he]
end Go.Cm

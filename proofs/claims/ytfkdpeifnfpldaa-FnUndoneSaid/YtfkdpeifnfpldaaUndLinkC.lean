/- Codes that can be undone are one-to-one, and the undoing code gives the letter. No program in sight. -/
import Derived.Test.YtfkdpeifnfpldaaUndLinkB
namespace Go.Cm

/-- what is known of a table of letters: each entry is none or a letter -/
def TabOk (K : Nat) (t : List UInt8) : Prop := ∀ i, t.getD i 0 = 0 ∨ isLet K (t.getD i 0) = true
theorem let_ne {K : Nat} {c : UInt8} (h : isLet K c = true) : c ≠ 0 := by
  intro e
  subst e
  simp [isLet] at h
theorem getD_set {t : List UInt8} {i j : Nat} {c : UInt8} (h : i < t.length) : (t.set i c).getD j 0 = if i = j then c else t.getD j 0 := by
  rw [List.getD_eq_getElem?_getD, List.getElem?_set]
  by_cases e : i = j
  · subst e
    simp [h]
  · simp [e, List.getD_eq_getElem?_getD]

/-- the words that are laid give their letter -/
theorem undoTo_good {K n m a : Nat} (hK0 : 0 < K) (hK : K ≤ 3) (hn : 1 ≤ n) (hm : 1 ≤ m) (ha : a < n + m - 1) {o : ByteArray} (hos : o.size = K ^ n) (hoa : areLet K o.data.toList = true) :
    ∀ (k : Nat) (t : List UInt8), k ≤ K ^ (n + m - 1) → undoTo K n m a o k = some t → TabOk K t ∧ ∀ j, j < k → t.getD (idxL K (applyL K n o (wordL K (n + m - 1) j))) 0 = (wordL K (n + m - 1) j).getD a 0
  | 0, t, _, h => by
    rw [undoTo_zero] at h
    obtain rfl := Option.some.inj h
    refine ⟨fun i => .inl ?_, fun j hj => absurd hj (Nat.not_lt_zero j)⟩
    rw [List.getD_eq_getElem?_getD, List.getElem?_replicate]
    split <;> rfl
  | k + 1, t, hk, h => by
    have hu : (wordsL K (n + m - 1))[k]? = some (wordL K (n + m - 1) k) := by
      unfold wordsL
      rw [List.getElem?_map, List.getElem?_range (by omega)]
      rfl
    rw [undoTo_succ K n m a o k _ hu] at h
    cases hp : undoTo K n m a o k with
    | none => rw [hp] at h; cases h
    | some t0 =>
      obtain ⟨h1, h2⟩ := undoTo_good hK0 hK hn hm ha hos hoa k t0 (by omega) hp
      have hlen := undoTo_length hp
      rw [hp] at h
      have hlw : areLet K (wordL K (n + m - 1) k) = true := areLet_wordL K hK0 hK _ k
      have hidx : idxL K (applyL K n o (wordL K (n + m - 1) k)) < t0.length := by
        have := idxL_lt K _ (areLet_apply hos hoa hlw)
        rw [applyL_length, wordL_length, show n + m - 1 + 1 - n = m by omega] at this
        omega
      have hlet : isLet K ((wordL K (n + m - 1) k).getD a 0) = true := isLet_getD hlw (by rw [wordL_length]; exact ha)
      simp only [undoStep, Option.bind_some] at h
      split at h
      · cases h
      · rename_i hc
        obtain rfl := Option.some.inj h
        refine ⟨fun i => ?_, fun j hj => ?_⟩
        · rw [getD_set hidx]
          split
          · exact .inr hlet
          · exact h1 i
        · rw [getD_set hidx]
          split
          · rename_i e
            by_cases hjk : j = k
            · rw [hjk]
            · have h3 := h2 j (by omega)
              rw [← e] at h3
              have hlj : isLet K ((wordL K (n + m - 1) j).getD a 0) = true := isLet_getD (areLet_wordL K hK0 hK _ j) (by rw [wordL_length]; exact ha)
              have h4 := let_ne hlj
              rw [← h3] at h4
              simp only [Bool.and_eq_true, bne_iff_ne, ne_eq, not_and, Decidable.not_not] at hc
              rw [← hc h4, h3]
          · rename_i e
            have : j ≠ k := fun e2 => e (by rw [e2])
            exact h2 j (by omega)
/-- A code that is undone: the table gives each word's letter, and holds letters alone. -/
theorem undoL_good {K n m a : Nat} (hK0 : 0 < K) (hK : K ≤ 3) (hn : 1 ≤ n) (hm : 1 ≤ m) (ha : a < n + m - 1) {o : ByteArray} (hos : o.size = K ^ n) (hoa : areLet K o.data.toList = true) {t : List UInt8} (h : undoL K n m a o = some t) :
    t.length = K ^ m ∧ areLet K t = true ∧ ∀ w, areLet K w = true → w.length = n + m - 1 → t.getD (idxL K (applyL K n o w)) 0 = w.getD a 0 := by
  unfold undoL at h
  cases hp : undoTo K n m a o (K ^ (n + m - 1)) with
  | none => rw [hp] at h; cases h
  | some t0 =>
    rw [hp] at h
    obtain rfl := Option.some.inj h
    obtain ⟨h1, h2⟩ := undoTo_good hK0 hK hn hm ha hos hoa _ t0 (Nat.le_refl _) hp
    have hlen := undoTo_length hp
    have hfill : ∀ i, i < t0.length → (t0.map fillA).getD i 0 = fillA (t0.getD i 0) := fun i hi => by
      rw [List.getD_eq_getElem?_getD, List.getElem?_map, List.getD_eq_getElem?_getD, List.getElem?_eq_getElem hi]
      rfl
    refine ⟨by rw [List.length_map, hlen], ?_, fun w hw hl => ?_⟩
    · unfold areLet
      rw [List.all_eq_true]
      intro c hc
      obtain ⟨i, hi, rfl⟩ := List.getElem_of_mem hc
      have hi' : i < t0.length := by simpa using hi
      have e := hfill i hi'
      rw [List.getD_eq_getElem?_getD, List.getElem?_eq_getElem hi] at e
      have e : (t0.map fillA)[i] = fillA (t0.getD i 0) := e
      rw [e]
      unfold fillA
      split
      · simp [isLet]; omega
      · rcases h1 i with h | h
        · contradiction
        · exact h
    · have hlt := idxL_lt K w hw
      rw [hl] at hlt
      have hw2 := wordL_idxL hK w hw
      rw [hl] at hw2
      have h3 := h2 (idxL K w) hlt
      rw [hw2] at h3
      have hidx : idxL K (applyL K n o w) < t0.length := by
        have := idxL_lt K _ (areLet_apply hos hoa hw)
        rw [applyL_length, hl, show n + m - 1 + 1 - n = m by omega] at this
        omega
      rw [hfill _ hidx, h3]
      unfold fillA
      rw [if_neg (let_ne (isLet_getD hw (by omega)))]

/-- ways ahead of a lively pair -/
theorem fwd {K m N : Nat} (hK0 : 0 < K) (hK : K ≤ 3) {o : ByteArray} (hN : N = K ^ m) : ∀ (j p : Nat), (livelyL (stepsL K N o)).getD p false = true → ∃ x y : List UInt8, x.length = j ∧ y.length = j ∧ areLet K x = true ∧ areLet K y = true ∧ applyL K (m + 1) o (wordL K m (p / N) ++ x) = applyL K (m + 1) o (wordL K m (p % N) ++ y)
  | 0, p, _ => ⟨[], [], rfl, rfl, rfl, rfl, by
    rw [List.append_nil, List.append_nil, List.eq_nil_of_length_eq_zero (l := applyL K (m + 1) o (wordL K m (p / N))) (by rw [applyL_length, wordL_length]; omega), List.eq_nil_of_length_eq_zero (l := applyL K (m + 1) o (wordL K m (p % N))) (by rw [applyL_length, wordL_length]; omega)]⟩
  | j + 1, p, hp => by
    have hN0 : 0 < N := by rw [hN]; exact Nat.pow_pos hK0
    obtain ⟨hlt, ⟨q, hq, hr⟩, -⟩ := lively_goes hp
    rw [stepsL_length] at hlt
    rw [row_at hlt, mem_row] at hr
    obtain ⟨x, hx, y, hy, he, rfl⟩ := hr
    obtain ⟨x', y', h1, h2, h3, h4, h5⟩ := fwd hK0 hK hN j _ hq
    rw [(pair_div (Nat.mod_lt _ hN0)).1, (pair_div (Nat.mod_lt _ hN0)).2] at h5
    have hu : p / N < N := Nat.div_lt_of_lt_mul hlt
    have hv : p % N < N := Nat.mod_lt _ hN0
    have go : ∀ (u x : Nat) (x' : List UInt8), u < N → x < K → areLet K x' = true → applyL K (m + 1) o (wordL K m u ++ letN x :: x') = o.data.toList.getD (u * K + x) 0 :: applyL K (m + 1) o (wordL K m ((u * K + x) % N) ++ x') := by
      intro u x x' hu hx hx'
      have hl : (wordL K m u ++ [letN x]).length = m + 1 := by simp [wordL_length]
      have hlt : areLet K (wordL K m u ++ [letN x]) = true := by rw [areLet_append, areLet_wordL K hK0 hK, letN_let hK0 hK hx]; rfl
      have hi : idxL K (wordL K m u ++ [letN x]) = u * K + x := by rw [idxL_snoc, idxL_wordL K hK0 hK m u (by omega), letN_num (by omega)]
      have ht := idx_tail (K := K) (m := m) _ hl hlt
      rw [hi, ← hN] at ht
      have hd : (wordL K m u ++ [letN x]).drop 1 = wordL K m ((u * K + x) % N) := by
        have h6 := wordL_idxL hK ((wordL K m u ++ [letN x]).drop 1) (let_drop 1 hlt)
        rw [List.length_drop, hl, Nat.add_sub_cancel, ht] at h6
        exact h6.symm
      rw [show wordL K m u ++ letN x :: x' = (wordL K m u ++ [letN x]) ++ x' by simp]
      generalize wordL K m u ++ [letN x] = s at hl hlt hi hd
      match s, hl with
      | c :: s, hl =>
        have hl' : s.length = m := by simpa using hl
        rw [List.cons_append, applyL_cons o c (s ++ x') (by simp; omega), show (s ++ x').take m = s by rw [← hl', List.take_left]]
        have hd' : s = wordL K m ((u * K + x) % N) := hd
        rw [← hd']
        unfold givesL
        rw [hi]
    refine ⟨letN x :: x', letN y :: y', by simp [h1], by simp [h2], by rw [let_cons, h3, letN_isLet hK0 hK hx]; rfl, by rw [let_cons, h4, letN_isLet hK0 hK hy]; rfl, ?_⟩
    rw [go _ x x' hu hx h3, go _ y y' hv hy h4, he, h5]

/-- ways behind a lively pair -/
theorem bwd {K m N : Nat} (hK0 : 0 < K) (hK : K ≤ 3) (hm : 1 ≤ m) {o : ByteArray} (hN : N = K ^ m) : ∀ (j p : Nat), (livelyL (stepsL K N o)).getD p false = true → ∃ x y : List UInt8, x.length = j ∧ y.length = j ∧ areLet K x = true ∧ areLet K y = true ∧ applyL K (m + 1) o (x ++ wordL K m (p / N)) = applyL K (m + 1) o (y ++ wordL K m (p % N))
  | 0, p, _ => ⟨[], [], rfl, rfl, rfl, rfl, by
    rw [List.nil_append, List.nil_append, List.eq_nil_of_length_eq_zero (l := applyL K (m + 1) o (wordL K m (p / N))) (by rw [applyL_length, wordL_length]; omega), List.eq_nil_of_length_eq_zero (l := applyL K (m + 1) o (wordL K m (p % N))) (by rw [applyL_length, wordL_length]; omega)]⟩
  | j + 1, p, hp => by
    have hN0 : 0 < N := by rw [hN]; exact Nat.pow_pos hK0
    obtain ⟨-, -, q, hq, hr⟩ := lively_goes hp
    have hlq := (lively_goes hq).1
    rw [stepsL_length] at hlq
    rw [row_at hlq, mem_row] at hr
    obtain ⟨x, hx, y, hy, he, rfl⟩ := hr
    obtain ⟨x', y', h1, h2, h3, h4, h5⟩ := bwd hK0 hK hm hN j q hq
    rw [(pair_div (Nat.mod_lt _ hN0)).1, (pair_div (Nat.mod_lt _ hN0)).2]
    have hu : q / N < N := Nat.div_lt_of_lt_mul hlq
    have hv : q % N < N := Nat.mod_lt _ hN0
    have go : ∀ (u x : Nat) (x' : List UInt8), u < N → x < K → areLet K x' = true → x'.length = j → ∃ c : UInt8, isLet K c = true ∧ applyL K (m + 1) o (x' ++ [c] ++ wordL K m ((u * K + x) % N)) = applyL K (m + 1) o (x' ++ wordL K m u) ++ [o.data.toList.getD (u * K + x) 0] := by
      intro u x x' hu hx hx' hxl
      have hl : (wordL K m u ++ [letN x]).length = m + 1 := by simp [wordL_length]
      have hlt : areLet K (wordL K m u ++ [letN x]) = true := by rw [areLet_append, areLet_wordL K hK0 hK, letN_let hK0 hK hx]; rfl
      have hi : idxL K (wordL K m u ++ [letN x]) = u * K + x := by rw [idxL_snoc, idxL_wordL K hK0 hK m u (by omega), letN_num (by omega)]
      have ht := idx_tail (K := K) (m := m) _ hl hlt
      rw [hi, ← hN] at ht
      have hd : (wordL K m u ++ [letN x]).drop 1 = wordL K m ((u * K + x) % N) := by
        have h6 := wordL_idxL hK ((wordL K m u ++ [letN x]).drop 1) (let_drop 1 hlt)
        rw [List.length_drop, hl, Nat.add_sub_cancel, ht] at h6
        exact h6.symm
      have hs := applyL_snoc (K := K) (m := m) o (x' ++ wordL K m u) (letN x) j (by simp [wordL_length, hxl])
      rw [show (x' ++ wordL K m u).drop j = wordL K m u by rw [← hxl, List.drop_left]] at hs
      unfold givesL at hs
      rw [hi, List.append_assoc] at hs
      generalize wordL K m u ++ [letN x] = s at hl hlt hd hs
      match s, hl with
      | c :: s, hl =>
        have hd' : s = wordL K m ((u * K + x) % N) := hd
        rw [let_cons, Bool.and_eq_true] at hlt
        refine ⟨c, hlt.1, ?_⟩
        rw [← hd', List.append_assoc]
        exact hs
    obtain ⟨c, hc, hc2⟩ := go _ x x' hu hx h3 h1
    obtain ⟨d, hd, hd2⟩ := go _ y y' hv hy h4 h2
    refine ⟨x' ++ [c], y' ++ [d], by simp [h1], by simp [h2], by rw [areLet_append, h3]; simpa [areLet] using hc, by rw [areLet_append, h4]; simpa [areLet] using hd, ?_⟩
    rw [hc2, hd2, h5, he]
end Go.Cm

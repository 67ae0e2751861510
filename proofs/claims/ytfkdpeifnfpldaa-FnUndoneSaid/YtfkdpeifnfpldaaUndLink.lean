/- Codes that are permutive, one-to-one, or can be undone: what follows. No program in sight. -/
import Derived.Test.YtfkdpeifnfpldaaPkM
namespace Go.Cm

/-! ### Permutive codes are onto -/

theorem has_src {K m : Nat} (hK0 : 0 < K) (hK : K ≤ 3) {o : ByteArray} {w s : List UInt8} (hl : s.length = w.length + m) (ha : areLet K s = true) (he : applyL K (m + 1) o s = w) : 0 < srcN K (m + 1) o w := by
  unfold srcN
  rw [List.countP_pos_iff]
  refine ⟨s, ?_, by simp [he]⟩
  have := mem_of_let hK0 hK s ha
  rwa [hl] at this
theorem applyL_cons {K m : Nat} (o : ByteArray) (c : UInt8) (s : List UInt8) (h : m ≤ s.length) : applyL K (m + 1) o (c :: s) = givesL K o (c :: s.take m) :: applyL K (m + 1) o s := by
  have h1 := applyL_take (K := K) (n := m + 1) (by omega) o (c :: s) 1 (by simp; omega)
  have h2 := applyL_drop (K := K) (n := m + 1) (by omega) o (c :: s) 1
  have e : (c :: s).take (1 + (m + 1 - 1)) = c :: s.take m := by
    rw [show 1 + (m + 1 - 1) = m + 1 by omega, List.take_succ_cons]
  rw [e, applyL_one o (c :: s.take m) (by simp; omega)] at h1
  rw [← List.take_append_drop 1 (applyL K (m + 1) o (c :: s)), h1, h2]
  rfl
theorem all_of_nodup {K : Nat} {l : List Nat} (hn : l.Nodup) (hl : l.length = K) (hb : ∀ x ∈ l, x < K) {c : Nat} (hc : c < K) : c ∈ l := by
  apply Classical.byContradiction
  intro hno
  have h := nodup_bound K (c :: l) (List.nodup_cons.2 ⟨hno, hn⟩) (fun x hx => by
    rcases List.mem_cons.1 hx with rfl | hx
    · exact hc
    · exact hb x hx)
  simp at h
  omega
theorem let_num {K : Nat} {c : UInt8} (h : isLet K c = true) : c.toNat - 97 < K := by
  simp only [isLet, Bool.and_eq_true, decide_eq_true_eq] at h
  omega
theorem perm_at {K m : Nat} {o : ByteArray} {r : Bool} (hos : o.size = K ^ (m + 1)) (hoa : areLet K o.data.toList = true) (hp : permB K m o r = true) {i : Nat} (hi : i < K ^ m) {c : UInt8} (hc : isLet K c = true) :
    ∃ x, x < K ∧ o.data.toList.getD (atL K (K ^ m) i x r) 0 = c := by
  unfold permB at hp
  rw [List.all_eq_true] at hp
  have hn := of_decide_eq_true (hp i (List.mem_range.2 hi))
  have hol : ∀ x, x < K → isLet K (o.data.toList.getD (atL K (K ^ m) i x r) 0) = true := fun x hx => isLet_getD hoa (by
    rw [Array.length_toList]
    exact Nat.lt_of_lt_of_eq (atL_lt hi hx) hos.symm)
  have hm := all_of_nodup hn (by simp [rowL]) (fun y hy => by
    simp only [rowL, List.mem_map, List.mem_range] at hy
    obtain ⟨x, hx, rfl⟩ := hy
    exact let_num (hol x hx)) (let_num hc)
  simp only [rowL, List.mem_map, List.mem_range] at hm
  obtain ⟨x, hx, he⟩ := hm
  exact ⟨x, hx, num_inj (hol x hx) hc he⟩
theorem let_drop {k : Int} {u : List UInt8} (n : Nat) (h : areLet k u = true) : areLet k (u.drop n) = true := by
  unfold areLet at *
  rw [List.all_eq_true] at *
  exact fun c hc => h c (List.mem_of_mem_drop hc)
theorem let_take {k : Int} {u : List UInt8} (n : Nat) (h : areLet k u = true) : areLet k (u.take n) = true := by
  unfold areLet at *
  rw [List.all_eq_true] at *
  exact fun c hc => h c (List.mem_of_mem_take hc)
theorem let_cons {k : Int} {c : UInt8} {u : List UInt8} : areLet k (c :: u) = (isLet k c && areLet k u) := by simp [areLet]
theorem letN_isLet {K x : Nat} (hK0 : 0 < K) (hK : K ≤ 3) (hx : x < K) : isLet K (letN x) = true := by
  have := letN_let hK0 hK hx
  simpa [areLet] using this

/-- A permutive code gives every word a source. -/
theorem perm_onto {K m : Nat} (hK0 : 0 < K) (hK : K ≤ 3) {o : ByteArray} {r : Bool} (hos : o.size = K ^ (m + 1)) (hoa : areLet K o.data.toList = true) (hp : permB K m o r = true) (w : List UInt8) (hw : areLet K w = true) : 0 < srcN K (m + 1) o w := by
  suffices h : ∃ s : List UInt8, s.length = w.length + m ∧ areLet K s = true ∧ applyL K (m + 1) o s = w by
    obtain ⟨s, h1, h2, h3⟩ := h
    exact has_src hK0 hK h1 h2 h3
  cases r with
  | false =>
    refine snoc_induction (p := fun w => areLet K w = true → ∃ s : List UInt8, s.length = w.length + m ∧ areLet K s = true ∧ applyL K (m + 1) o s = w) ?_ ?_ w hw
    · intro _
      refine ⟨wordL K m 0, by rw [wordL_length]; simp, areLet_wordL K hK0 hK m 0, ?_⟩
      exact List.eq_nil_of_length_eq_zero (by rw [applyL_length, wordL_length]; omega)
    · intro u c ih huc
      rw [areLet_append, Bool.and_eq_true] at huc
      obtain ⟨s, h1, h2, h3⟩ := ih huc.1
      have hd := let_drop u.length h2
      have hdl : (s.drop u.length).length = m := by simp; omega
      have hi := idxL_lt K _ hd
      rw [hdl] at hi
      obtain ⟨x, hx, he⟩ := perm_at hos hoa hp hi (c := c) (by simpa [areLet] using huc.2)
      refine ⟨s ++ [letN x], by simp; omega, by rw [areLet_append, h2, letN_let hK0 hK hx]; rfl, ?_⟩
      rw [applyL_snoc o s (letN x) u.length h1, h3]
      congr 1
      congr 1
      unfold givesL
      rw [idxL_snoc, letN_num (by omega)]
      exact he
  | true =>
    induction w with
    | nil =>
      refine ⟨wordL K m 0, by rw [wordL_length]; simp, areLet_wordL K hK0 hK m 0, ?_⟩
      exact List.eq_nil_of_length_eq_zero (by rw [applyL_length, wordL_length]; omega)
    | cons c u ih =>
      rw [let_cons, Bool.and_eq_true] at hw
      obtain ⟨s, h1, h2, h3⟩ := ih hw.2
      have hd := let_take m h2
      have hdl : (s.take m).length = m := by simp; omega
      have hi := idxL_lt K _ hd
      rw [hdl] at hi
      obtain ⟨x, hx, he⟩ := perm_at hos hoa hp hi hw.1
      refine ⟨letN x :: s, by simp; omega, by rw [let_cons, h2, letN_isLet hK0 hK hx]; rfl, ?_⟩
      rw [applyL_cons o (letN x) s (by omega), h3]
      congr 1
      unfold givesL
      rw [idxL_cons, letN_num (by omega), hdl]
      exact he

/-! ### The lively places -/

theorem mem_arcsTo {next : List (List Nat)} {p : Nat × Nat} : p ∈ arcsTo next next.length ↔ p.1 < next.length ∧ p.2 ∈ next.getD p.1 [] := by
  unfold arcsTo
  rw [List.mem_flatMap]
  constructor
  · rintro ⟨a, ha, hp⟩
    rw [List.mem_map] at hp
    obtain ⟨k, hk, rfl⟩ := hp
    exact ⟨List.mem_range.1 ha, hk⟩
  · rintro ⟨h1, h2⟩
    exact ⟨p.1, List.mem_range.2 h1, List.mem_map.2 ⟨p.2, h2, rfl⟩⟩
theorem stayB_iff {next : List (List Nat)} {l : List Bool} {i : Nat} (hi : i < next.length) : stayB next l i = true ↔ (∃ k, k ∈ next.getD i [] ∧ l.getD i false = true ∧ l.getD k false = true) ∧ ∃ a, a < next.length ∧ i ∈ next.getD a [] ∧ l.getD a false = true ∧ l.getD i false = true := by
  have hf : (fromL next.length l (arcsTo next next.length)).getD i false = (arcsTo next next.length).any fun p => p.1 == i && onB l p := by
    unfold fromL
    rw [List.getD_eq_getElem?_getD, List.getElem?_map, List.getElem?_range hi]
    rfl
  have ht : (toL next.length l (arcsTo next next.length)).getD i false = (arcsTo next next.length).any fun p => p.2 == i && onB l p := by
    unfold toL
    rw [List.getD_eq_getElem?_getD, List.getElem?_map, List.getElem?_range hi]
    rfl
  unfold stayB
  rw [hf, ht, Bool.and_eq_true, List.any_eq_true, List.any_eq_true]
  constructor
  · rintro ⟨⟨p, hp, h1⟩, q, hq, h2⟩
    rw [mem_arcsTo] at hp hq
    simp only [onB, Bool.and_eq_true, beq_iff_eq] at h1 h2
    obtain ⟨rfl, h3, h4⟩ := h1
    obtain ⟨h5, h6, h7⟩ := h2
    refine ⟨⟨p.2, hp.2, h3, h4⟩, q.1, hq.1, ?_, h6, ?_⟩
    · rw [← h5]; exact hq.2
    · rw [← h5]; exact h7
  · rintro ⟨⟨k, h1, h2, h3⟩, a, h4, h5, h6, h7⟩
    exact ⟨⟨(i, k), mem_arcsTo.2 ⟨hi, h1⟩, by simp only [onB, Bool.and_eq_true, beq_iff_eq]; exact ⟨trivial, h2, h3⟩⟩, (a, i), mem_arcsTo.2 ⟨h4, h5⟩, by simp only [onB, Bool.and_eq_true, beq_iff_eq]; exact ⟨trivial, h6, h7⟩⟩
theorem liveStep_at {next : List (List Nat)} {l : List Bool} {i : Nat} (hi : i < next.length) : (liveStep next l).getD i false = (l.getD i false && stayB next l i) := by
  unfold liveStep liveMix
  rw [List.getD_eq_getElem?_getD, List.getElem?_map, List.getElem?_range hi]
  simp [hi]
/-- what goes on within itself in both directions is lively -/
theorem lively_of {next : List (List Nat)} (S : Nat → Prop) (hS : ∀ p, S p → p < next.length ∧ (∃ q, S q ∧ q ∈ next.getD p []) ∧ ∃ q, S q ∧ p ∈ next.getD q []) : ∀ p, S p → (livelyL next).getD p false = true := by
  have key : ∀ k p, S p → (liveN next k).getD p false = true := by
    intro k
    induction k with
    | zero =>
      intro p hp
      obtain ⟨h1, -, -⟩ := hS p hp
      simp [liveN, List.getD_eq_getElem?_getD, h1]
    | succ k ih =>
      intro p hp
      obtain ⟨h1, ⟨q, hq, h2⟩, a, ha, h3⟩ := hS p hp
      rw [liveN, liveStep_at h1, ih p hp, Bool.true_and, stayB_iff h1]
      exact ⟨⟨q, h2, ih p hp, ih q hq⟩, a, (hS a ha).1, h3, ih a ha, ih p hp⟩
  exact fun p hp => key _ p hp
theorem cntT_zero {l : List Bool} (h : cntT l = 0) (i : Nat) : l.getD i false = false := by
  induction l generalizing i with
  | nil => simp
  | cons b l ih =>
    cases b with
    | true => simp [cntT] at h
    | false =>
      have h' : cntT l = 0 := by simpa [cntT] using h
      cases i with
      | zero => rfl
      | succ i => simpa using ih h' i
/-- the lively places stay -/
theorem lively_still (next : List (List Nat)) : liveStep next (livelyL next) = livelyL next := by
  have key : ∀ k, cntT (liveN next k) + k ≤ next.length ∨ liveStep next (liveN next k) = liveN next k := by
    intro k
    induction k with
    | zero => exact .inl (by have := cntT_le (liveN next 0); rw [liveN_length] at this; omega)
    | succ k ih =>
      rcases ih with h | h
      · cases hg : goneL next (liveN next k) next.length with
        | true =>
          have := live_less (liveN_length next k) hg
          left
          rw [liveN]
          omega
        | false =>
          have h2 := live_still (liveN_length next k) hg
          right
          rw [liveN, h2, h2]
      · right
        rw [liveN, h, h]
  rcases key next.length with h | h
  · refine live_still (liveN_length next _) ?_
    have h0 : cntT (liveN next next.length) = 0 := by omega
    unfold goneL
    rw [List.any_eq_false]
    intro j _
    have hz : (livelyL next).getD j false = false := cntT_zero h0 j
    rw [hz]
    simp
  · exact h
theorem lively_goes {next : List (List Nat)} {p : Nat} (hp : (livelyL next).getD p false = true) : p < next.length ∧ (∃ q, (livelyL next).getD q false = true ∧ q ∈ next.getD p []) ∧ ∃ q, (livelyL next).getD q false = true ∧ p ∈ next.getD q [] := by
  have hl : p < next.length := by
    rcases Nat.lt_or_ge p next.length with h | h
    · exact h
    · have h2 : (livelyL next).length = next.length := liveN_length next _
      rw [List.getD_eq_getElem?_getD, List.getElem?_eq_none (by omega)] at hp
      cases hp
  have h1 := liveStep_at (l := livelyL next) hl
  rw [lively_still, hp, Bool.true_and] at h1
  obtain ⟨⟨q, h2, -, h3⟩, a, -, h4, h5, -⟩ := (stayB_iff hl).1 h1.symm
  exact ⟨hl, ⟨q, h3, h2⟩, a, h5, h4⟩

/-! ### Pairs -/

theorem mem_row {K N : Nat} {o : ByteArray} {u v e : Nat} : e ∈ rowTo K N o u v K ↔ ∃ x, x < K ∧ ∃ y, y < K ∧ o.data.toList.getD (u * K + x) 0 = o.data.toList.getD (v * K + y) 0 ∧ e = (u * K + x) % N * N + (v * K + y) % N := by
  unfold rowTo
  rw [List.mem_flatMap]
  constructor
  · rintro ⟨x, hx, h⟩
    rw [List.mem_flatMap] at h
    obtain ⟨y, hy, h⟩ := h
    unfold pairS at h
    split at h
    · rename_i he
      exact ⟨x, List.mem_range.1 hx, y, List.mem_range.1 hy, he, by simpa using h⟩
    · simp at h
  · rintro ⟨x, hx, y, hy, he, rfl⟩
    refine ⟨x, List.mem_range.2 hx, List.mem_flatMap.2 ⟨y, List.mem_range.2 hy, ?_⟩⟩
    unfold pairS
    rw [if_pos he]
    simp
theorem row_at {K N : Nat} {o : ByteArray} {p : Nat} (h : p < N * N) : (stepsL K N o).getD p [] = rowTo K N o (p / N) (p % N) K := by
  rw [stepsL_row, if_pos h]
theorem pair_div {N u v : Nat} (hv : v < N) : (u * N + v) / N = u ∧ (u * N + v) % N = v := by
  have hN : 0 < N := by omega
  refine ⟨?_, ?_⟩
  · rw [Nat.add_comm, Nat.add_mul_div_right _ _ hN, Nat.div_eq_of_lt hv, Nat.zero_add]
  · rw [Nat.add_comm, Nat.add_mul_mod_self_right, Nat.mod_eq_of_lt hv]
theorem row_pair {K N : Nat} {o : ByteArray} {u v : Nat} (hu : u < N) (hv : v < N) : (stepsL K N o).getD (u * N + v) [] = rowTo K N o u v K := by
  rw [row_at (pair_lt hu hv), (pair_div hv).1, (pair_div hv).2]

theorem wordL_idxL {K : Nat} (hK : K ≤ 3) (t : List UInt8) : areLet K t = true → wordL K t.length (idxL K t) = t := by
  refine snoc_induction (p := fun t => areLet K t = true → wordL K t.length (idxL K t) = t) ?_ ?_ t
  · intro _; rfl
  · intro u c ih h
    rw [areLet_append, Bool.and_eq_true] at h
    obtain ⟨b, hb, rfl⟩ := letN_of hK h.2
    have hK0 : 0 < K := by omega
    rw [List.length_append, List.length_singleton, wordL, idxL_snoc, letN_num (by omega)]
    have h1 : (idxL K u * K + b) / K = idxL K u := by
      rw [Nat.add_comm, Nat.add_mul_div_right _ _ hK0, Nat.div_eq_of_lt hb, Nat.zero_add]
    have h2 : (idxL K u * K + b) % K = b := by
      rw [Nat.add_comm, Nat.add_mul_mod_self_right, Nat.mod_eq_of_lt hb]
    rw [h1, h2, ih h.1]
theorem idxL_inj {K : Nat} (hK : K ≤ 3) {s t : List UInt8} (hs : areLet K s = true) (ht : areLet K t = true) (hl : s.length = t.length) (h : idxL K s = idxL K t) : s = t := by
  rw [← wordL_idxL hK s hs, ← wordL_idxL hK t ht, hl, h]
end Go.Cm

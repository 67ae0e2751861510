/- Shifts told by forbidden words: plain laws. No program in sight. -/
import Derived.Test.YtngbibaphakifaaDoorWordMath
import Derived.Test.YtngbibaphakifaaDoorLiveMath
import Derived.Lib.IndexMore
namespace Go.Cm

/-- one word is a part of another one -/
def occ (w f : List UInt8) : Bool := Go.Lib.contains w f
theorem occAt_iff (s f : List UInt8) (i : Nat) : Go.Lib.occAt s f i = true ↔ f <+: s.drop i := by
  unfold Go.Lib.occAt
  exact List.isPrefixOf_iff_prefix
theorem occ_iff (s f : List UInt8) : occ s f = true ↔ f <:+: s := by
  unfold occ Go.Lib.contains
  rw [decide_eq_true_iff]
  constructor
  · intro h
    rcases Go.Lib.index_spec s f with ⟨h1, _⟩ | ⟨i, _, _, h3, _⟩
    · omega
    · rw [occAt_iff] at h3
      exact h3.isInfix.trans (List.drop_suffix i s).isInfix
  · rintro ⟨a, b, rfl⟩
    rcases Go.Lib.index_spec (a ++ f ++ b) f with ⟨_, h2⟩ | ⟨i, h1, _⟩
    · have h3 := h2 a.length (by simp)
      have h4 : Go.Lib.occAt (a ++ f ++ b) f a.length = true := by
        rw [occAt_iff, List.append_assoc, List.drop_left]
        exact List.prefix_append f b
      rw [h3] at h4
      cases h4
    · omega
theorem occ_trans {a b c : List UInt8} (h1 : occ a b = true) (h2 : occ b c = true) : occ a c = true := by
  rw [occ_iff] at h1 h2 ⊢
  exact h2.trans h1
/-- at a place -/
def atB (s f : List UInt8) (i : Nat) : Bool := (s.drop i).take f.length == f
theorem occ_of_at {s f : List UInt8} {i : Nat} (h : atB s f i = true) : occ s f = true := by
  rw [occ_iff]
  have e : (s.drop i).take f.length = f := by simpa [atB] using h
  rw [← e]
  exact (List.take_prefix _ _).isInfix.trans (List.drop_suffix i s).isInfix
theorem occ_none {s f : List UInt8} (h : ∀ i, i + f.length ≤ s.length → atB s f i = false) : occ s f = false := by
  rw [Bool.eq_false_iff]
  intro ho
  rw [occ_iff] at ho
  obtain ⟨a, b, rfl⟩ := ho
  have h1 := h a.length (by simp)
  have h2 : atB (a ++ f ++ b) f a.length = true := by
    unfold atB
    rw [List.append_assoc, List.drop_left, List.take_left]
    simp
  rw [h1] at h2
  cases h2

/-- no forbidden word is a part -/
def avoidL (F : List (List UInt8)) (w : List UInt8) : Bool := F.all fun f => !occ w f
theorem avoidL_bad {F : List (List UInt8)} {w f : List UInt8} (hf : f ∈ F) (h : occ w f = true) : avoidL F w = false := by
  unfold avoidL
  rw [List.all_eq_false]
  exact ⟨f, hf, by rw [h]; simp⟩
theorem avoidL_part {F : List (List UInt8)} {u w : List UInt8} (h : avoidL F u = true) (ho : occ u w = true) : avoidL F w = true := by
  unfold avoidL at h ⊢
  rw [List.all_eq_true] at h ⊢
  intro f hf
  have := h f hf
  cases hw : occ w f with
  | false => rfl
  | true => rw [occ_trans ho hw] at this; exact this

/-- a pair of letters with another one behind it -/
def adjL (F : List (List UInt8)) (u v : List UInt8) : Bool := (u.getD 1 0 == v.getD 0 0) && avoidL F (u ++ v.drop 1)
/-- the avoiding words of a length -/
def avoidsN (K : Nat) (F : List (List UInt8)) (n : Nat) : List (List UInt8) := (wordsL K n).filter (avoidL F)
/-- the arcs between some pairs -/
def nextL (F : List (List UInt8)) (ps : List (List UInt8)) : List (List Nat) := ps.map fun u => (List.range ps.length).filter fun k => adjL F u (ps.getD k [])
theorem nextL_length (F ps : List (List UInt8)) : (nextL F ps).length = ps.length := by simp [nextL]
theorem nextL_at (F ps : List (List UInt8)) (a : Nat) (h : a < ps.length) : (nextL F ps).getD a [] = (List.range ps.length).filter fun k => adjL F (ps.getD a []) (ps.getD k []) := by
  unfold nextL
  rw [List.getD_eq_getElem?_getD, List.getElem?_map, List.getElem?_eq_getElem h]
  simp [List.getD_eq_getElem?_getD, List.getElem?_eq_getElem h]

/-- those of the first k that are marked -/
def keepTo (ps : List (List UInt8)) (l : List Bool) (k : Nat) : List (List UInt8) := ((List.range k).filter fun j => l.getD j false).map fun j => ps.getD j []
def keepL (ps : List (List UInt8)) (l : List Bool) : List (List UInt8) := keepTo ps l ps.length
theorem keepTo_zero (ps : List (List UInt8)) (l : List Bool) : keepTo ps l 0 = [] := rfl
theorem keepTo_yes {ps : List (List UInt8)} {l : List Bool} {k : Nat} (h : l.getD k false = true) : keepTo ps l (k + 1) = keepTo ps l k ++ [ps.getD k []] := by
  unfold keepTo
  rw [List.range_succ, List.filter_append, List.map_append, List.filter_cons_of_pos (by exact h)]
  rfl
theorem keepTo_no {ps : List (List UInt8)} {l : List Bool} {k : Nat} (h : l.getD k false = false) : keepTo ps l (k + 1) = keepTo ps l k := by
  unfold keepTo
  rw [List.range_succ, List.filter_append, List.map_append, List.filter_cons_of_neg (by rw [h]; simp)]
  exact List.append_nil _
theorem keepTo_length_le (ps : List (List UInt8)) (l : List Bool) (k : Nat) : (keepTo ps l k).length ≤ k := by
  unfold keepTo
  rw [List.length_map]
  have := List.length_filter_le (fun j => l.getD j false) (List.range k)
  rw [List.length_range] at this
  exact this
theorem keepTo_mem {ps : List (List UInt8)} {l : List Bool} {u : List UInt8} (h : u ∈ keepL ps l) : u ∈ ps := by
  unfold keepL keepTo at h
  obtain ⟨j, hj, rfl⟩ := List.mem_map.1 h
  have h1 := List.mem_range.1 (List.mem_filter.1 hj).1
  rw [List.getD_eq_getElem?_getD, List.getElem?_eq_getElem h1]
  exact List.getElem_mem h1
theorem keepL_any (ps : List (List UInt8)) (l : List Bool) (g : List UInt8 → Bool) : (keepL ps l).any g = true ↔ ∃ k, k < ps.length ∧ l.getD k false = true ∧ g (ps.getD k []) = true := by
  unfold keepL keepTo
  rw [List.any_eq_true]
  constructor
  · rintro ⟨x, hx, hg⟩
    obtain ⟨k, hk, rfl⟩ := List.mem_map.1 hx
    exact ⟨k, List.mem_range.1 (List.mem_filter.1 hk).1, (List.mem_filter.1 hk).2, hg⟩
  · rintro ⟨k, h1, h2, h3⟩
    exact ⟨_, List.mem_map.2 ⟨k, List.mem_filter.2 ⟨List.mem_range.2 h1, h2⟩, rfl⟩, h3⟩
/-- a pair has one behind it and one ahead of it in a list -/
def goesB (F out : List (List UInt8)) (u : List UInt8) : Bool := (out.any fun v => adjL F u v) && (out.any fun v => adjL F v u)

theorem liveStep_at (next : List (List Nat)) (l : List Bool) (k : Nat) (hk : k < next.length) : (liveStep next l).getD k false = (l.getD k false && stayB next l k) := by
  unfold liveStep liveMix
  rw [List.getD_eq_getElem?_getD, List.getElem?_map, List.getElem?_range hk]
  simp [hk]
theorem arcs_any (next : List (List Nat)) (n : Nat) (g : Nat × Nat → Bool) : (arcsTo next n).any g = true ↔ ∃ a j, a < n ∧ j ∈ next.getD a [] ∧ g (a, j) = true := by
  unfold arcsTo
  rw [List.any_eq_true]
  constructor
  · rintro ⟨p, hp, hg⟩
    obtain ⟨a, ha, hp⟩ := List.mem_flatMap.1 hp
    obtain ⟨j, hj, rfl⟩ := List.mem_map.1 hp
    exact ⟨a, j, List.mem_range.1 ha, hj, hg⟩
  · rintro ⟨a, j, h1, h2, h3⟩
    exact ⟨(a, j), List.mem_flatMap.2 ⟨a, List.mem_range.2 h1, List.mem_map.2 ⟨j, h2, rfl⟩⟩, h3⟩
theorem fromL_at (n : Nat) (l : List Bool) (P : List (Nat × Nat)) (k : Nat) (hk : k < n) : (fromL n l P).getD k false = P.any fun p => p.1 == k && onB l p := by
  unfold fromL
  rw [List.getD_eq_getElem?_getD, List.getElem?_map, List.getElem?_range hk]
  rfl
theorem toL_at (n : Nat) (l : List Bool) (P : List (Nat × Nat)) (k : Nat) (hk : k < n) : (toL n l P).getD k false = P.any fun p => p.2 == k && onB l p := by
  unfold toL
  rw [List.getD_eq_getElem?_getD, List.getElem?_map, List.getElem?_range hk]
  rfl

theorem stay_goes (F ps : List (List UInt8)) (l : List Bool) (k : Nat) (hk : k < ps.length) (hl : l.getD k false = true) : stayB (nextL F ps) l k = goesB F (keepL ps l) (ps.getD k []) := by
  unfold stayB goesB
  rw [nextL_length, fromL_at _ _ _ _ hk, toL_at _ _ _ _ hk]
  congr 1
  · rw [Bool.eq_iff_iff, arcs_any, keepL_any]
    constructor
    · rintro ⟨a, j, ha, hj, hg⟩
      rw [nextL_at F ps a ha] at hj
      have h1 := List.mem_range.1 (List.mem_filter.1 hj).1
      have h2 := (List.mem_filter.1 hj).2
      simp only [onB, Bool.and_eq_true, beq_iff_eq] at hg
      obtain ⟨rfl, _, h3⟩ := hg
      exact ⟨j, h1, h3, h2⟩
    · rintro ⟨j, h1, h2, h3⟩
      refine ⟨k, j, hk, ?_, ?_⟩
      · rw [nextL_at F ps k hk]
        exact List.mem_filter.2 ⟨List.mem_range.2 h1, h3⟩
      · simp only [onB, Bool.and_eq_true, beq_iff_eq]
        exact ⟨trivial, hl, h2⟩
  · rw [Bool.eq_iff_iff, arcs_any, keepL_any]
    constructor
    · rintro ⟨a, j, ha, hj, hg⟩
      rw [nextL_at F ps a ha] at hj
      have h2 := (List.mem_filter.1 hj).2
      simp only [onB, Bool.and_eq_true, beq_iff_eq] at hg
      obtain ⟨rfl, h3, _⟩ := hg
      exact ⟨a, ha, h3, h2⟩
    · rintro ⟨j, h1, h2, h3⟩
      refine ⟨j, k, h1, ?_, ?_⟩
      · rw [nextL_at F ps j h1]
        exact List.mem_filter.2 ⟨List.mem_range.2 hk, h3⟩
      · simp only [onB, Bool.and_eq_true, beq_iff_eq]
        exact ⟨trivial, h2, hl⟩

/-- one round of the reference's search -/
theorem keep_step (F ps : List (List UInt8)) (l : List Bool) : (keepL ps l).filter (goesB F (keepL ps l)) = keepL ps (liveStep (nextL F ps) l) := by
  have e : ∀ g : List UInt8 → Bool, (keepL ps l).filter g = ((List.range ps.length).filter fun j => l.getD j false && g (ps.getD j [])).map fun j => ps.getD j [] := by
    intro g
    unfold keepL keepTo
    rw [List.filter_map, List.filter_filter]
    congr 1
    apply List.filter_congr
    intro j _
    simp [Bool.and_comm]
  rw [e]
  unfold keepL keepTo
  congr 1
  apply List.filter_congr
  intro j hj
  have hj' := List.mem_range.1 hj
  rw [liveStep_at _ _ _ (by rw [nextL_length]; exact hj')]
  cases hl : l.getD j false with
  | false => rfl
  | true =>
    rw [stay_goes F ps l j hj' hl]
    rfl

theorem keepTo_cnt (ps : List (List UInt8)) (l : List Bool) : ∀ k, k ≤ l.length → (keepTo ps l k).length = cntT (l.take k)
  | 0, _ => by simp [keepTo, cntT]
  | k + 1, h => by
    have ih := keepTo_cnt ps l k (by omega)
    have ht : l.take (k + 1) = l.take k ++ [l.getD k false] := by
      rw [List.take_succ_eq_append_getElem (by omega), List.getD_eq_getElem?_getD, List.getElem?_eq_getElem (by omega)]
      rfl
    rw [ht]
    cases hl : l.getD k false with
    | false =>
      rw [keepTo_no hl, ih]
      simp [cntT]
    | true =>
      rw [keepTo_yes hl, List.length_append, ih]
      simp [cntT]
theorem keepL_cnt {ps : List (List UInt8)} {l : List Bool} (h : l.length = ps.length) : (keepL ps l).length = cntT l := by
  unfold keepL
  rw [← h, keepTo_cnt ps l l.length (Nat.le_refl _), List.take_length]
theorem liveN_keep_all (ps : List (List UInt8)) : keepL ps (List.replicate ps.length true) = ps := by
  unfold keepL keepTo
  rw [List.filter_eq_self.2 (fun j hj => by
    have := List.mem_range.1 hj
    simp [List.getD_eq_getElem?_getD, this])]
  apply List.ext_getElem
  · simp
  · intro i h1 h2
    simp [List.getD_eq_getElem?_getD, h2]

/-- the pairs that go on in both directions -/
def statesOf (F ps : List (List UInt8)) : List (List UInt8) := keepL ps (livelyL (nextL F ps))
def statesL (K : Nat) (F : List (List UInt8)) : List (List UInt8) := statesOf F (avoidsN K F 2)
theorem statesL_avoid {K : Nat} {F : List (List UInt8)} {u : List UInt8} (h : u ∈ statesL K F) : avoidL F u = true := (List.mem_filter.1 (keepTo_mem h)).2
theorem statesL_word {K : Nat} {F : List (List UInt8)} {u : List UInt8} (h : u ∈ statesL K F) : u ∈ wordsL K 2 := (List.mem_filter.1 (keepTo_mem h)).1
/-- the state of the reference's search -/
def PairSt (F ps : List (List UInt8)) (out : List (List UInt8)) : Prop := ∃ k, out = keepL ps (liveN (nextL F ps) k) ∧ cntT (liveN (nextL F ps) k) + k ≤ ps.length
theorem PairSt.start (F ps : List (List UInt8)) : PairSt F ps ps := by
  refine ⟨0, ?_, ?_⟩
  · unfold liveN
    rw [nextL_length]
    exact (liveN_keep_all ps).symm
  · have := cntT_le (liveN (nextL F ps) 0)
    rw [liveN_length, nextL_length] at this
    omega
theorem PairSt.step {F ps out : List (List UInt8)} (h : PairSt F ps out) :
    (out.filter (goesB F out)).length ≤ out.length ∧
    ((out.filter (goesB F out)).length = out.length → out = statesOf F ps) ∧
    (¬ (out.filter (goesB F out)).length = out.length → PairSt F ps (out.filter (goesB F out))) := by
  obtain ⟨k, rfl, hk⟩ := h
  have hlen := liveN_length (nextL F ps) k
  have hlen' : (liveN (nextL F ps) k).length = ps.length := by rw [hlen, nextL_length]
  have hs : (liveStep (nextL F ps) (liveN (nextL F ps) k)).length = ps.length := by
    have := liveN_length (nextL F ps) (k + 1)
    rw [nextL_length] at this
    exact this
  refine ⟨List.length_filter_le _ _, fun he => ?_, fun hne => ?_⟩
  · rw [keep_step, keepL_cnt hs, keepL_cnt hlen'] at he
    have hg : goneL (nextL F ps) (liveN (nextL F ps) k) (nextL F ps).length = false := by
      rw [Bool.eq_false_iff]
      intro hg
      have := live_less hlen hg
      omega
    rw [livelyL_of (k := k) (by rw [nextL_length]; exact hk) hg]
    rfl
  · refine ⟨k + 1, by rw [keep_step]; rfl, ?_⟩
    have hg : goneL (nextL F ps) (liveN (nextL F ps) k) (nextL F ps).length = true := by
      cases hg : goneL (nextL F ps) (liveN (nextL F ps) k) (nextL F ps).length with
      | true => rfl
      | false =>
        exfalso
        apply hne
        rw [keep_step, live_still hlen hg]
    have := live_less hlen hg
    show cntT (liveStep _ _) + (k + 1) ≤ _
    omega

/-- is a word in the language, for the states of a shift -/
def hasL (F st : List (List UInt8)) (w : List UInt8) : Bool :=
  if w.length < 2 then st.any fun u => occ u w
  else avoidL F w && ((st.any fun u => u == w.take 2) && (st.any fun u => u == w.drop (w.length - 2)))
/-- .. by the reference -/
def hasS (F st : List (List UInt8)) (w : List UInt8) : Bool :=
  if st.length = 0 ∨ avoidL F w = false then false
  else if w.length < 2 then st.any fun u => occ u w
  else (st.any fun u => u == w.take 2) && (st.any fun u => u == w.drop (w.length - 2))
theorem hasS_eq {F st : List (List UInt8)} (h : ∀ u ∈ st, avoidL F u = true) (w : List UInt8) : hasS F st w = hasL F st w := by
  unfold hasS hasL
  by_cases h0 : st.length = 0
  · have : st = [] := List.eq_nil_of_length_eq_zero h0
    subst this
    simp
  · by_cases ha : avoidL F w = false
    · rw [if_pos (Or.inr ha)]
      by_cases hw : w.length < 2
      · rw [if_pos hw]
        symm
        rw [List.any_eq_false]
        intro u hu ho
        rw [avoidL_part (h u hu) ho] at ha
        cases ha
      · rw [if_neg hw, ha]; rfl
    · rw [if_neg (by simp [h0, ha])]
      by_cases hw : w.length < 2
      · rw [if_pos hw, if_pos hw]
      · rw [if_neg hw, if_neg hw]
        have : avoidL F w = true := by simpa using ha
        rw [this, Bool.true_and]
/-- the words of a length in the language -/
def languageL (K : Nat) (F : List (List UInt8)) (n : Nat) : List (List UInt8) := (wordsL K n).filter (hasL F (statesL K F))

/-! ### valid shifts -/
def lessW (a b : List UInt8) : Bool := Go.Op.bytesLess a b
def shOkAt (L : Int) (F : List (List UInt8)) (k : Nat) : Bool := (areLet L (F.getD k []) && (decide (1 ≤ (F.getD k []).length) && decide ((F.getD k []).length ≤ 3))) && (decide (k = 0) || lessW (F.getD (k - 1) []) (F.getD k []))
def shiftOk (L : Int) (F : List (List UInt8)) : Bool := ((decide (1 ≤ L) && decide (L ≤ 3)) && decide (F.length ≤ 8)) && (List.range F.length).all (shOkAt L F)
theorem shiftOk_head {L : Int} {F : List (List UInt8)} (h : ¬ (1 ≤ L ∧ L ≤ 3) ∨ ¬ F.length ≤ 8) : shiftOk L F = false := by
  unfold shiftOk
  rcases h with h | h
  · have : (decide (1 ≤ L) && decide (L ≤ 3)) = false := by simp; omega
    rw [this]; rfl
  · rw [decide_eq_false h]; simp
theorem shiftOk_bad {L : Int} {F : List (List UInt8)} {k : Nat} (hk : k < F.length) (h : shOkAt L F k = false) : shiftOk L F = false := by
  unfold shiftOk
  rw [show (List.range F.length).all (shOkAt L F) = false by rw [List.all_eq_false]; exact ⟨k, List.mem_range.2 hk, by rw [h]; simp⟩, Bool.and_false]
theorem shiftOk_all {L : Int} {F : List (List UInt8)} (h : ∀ j, j < F.length → shOkAt L F j = true) : shiftOk L F = ((decide (1 ≤ L) && decide (L ≤ 3)) && decide (F.length ≤ 8)) := by
  unfold shiftOk
  rw [show (List.range F.length).all (shOkAt L F) = true by rw [List.all_eq_true]; intro j hj; exact h j (List.mem_range.1 hj), Bool.and_true]
/-- what a valid shift is -/
structure ShFit (K : Nat) (F : List (List UInt8)) : Prop where
  k1 : 1 ≤ K
  k3 : K ≤ 3
  n8 : F.length ≤ 8
  word : ∀ f ∈ F, areLet K f = true ∧ 1 ≤ f.length ∧ f.length ≤ 3
  asc : ∀ j, j + 1 < F.length → lessW (F.getD j []) (F.getD (j + 1) []) = true
theorem ShFit.of {L : Int} {F : List (List UInt8)} (h : shiftOk L F = true) : ∃ K : Nat, L = K ∧ ShFit K F := by
  unfold shiftOk at h
  simp only [Bool.and_eq_true, decide_eq_true_eq, List.all_eq_true] at h
  obtain ⟨⟨⟨h1, h2⟩, h3⟩, h4⟩ := h
  refine ⟨L.toNat, by omega, ⟨by omega, by omega, h3, fun f hf => ?_, fun j hj => ?_⟩⟩
  · obtain ⟨i, hi, rfl⟩ := List.mem_iff_getElem.1 hf
    have := h4 i (List.mem_range.2 hi)
    unfold shOkAt at this
    simp only [Bool.and_eq_true, decide_eq_true_eq, List.getD_eq_getElem?_getD, List.getElem?_eq_getElem hi, Option.getD_some] at this
    rw [show ((L.toNat : Nat) : Int) = L by omega]
    exact ⟨this.1.1, this.1.2.1, this.1.2.2⟩
  · have := h4 (j + 1) (List.mem_range.2 hj)
    unfold shOkAt at this
    simp only [Bool.and_eq_true, Bool.or_eq_true, decide_eq_true_eq] at this
    have h5 := this.2
    rcases h5 with h5 | h5
    · omega
    · simpa using h5
theorem ShFit.ok {K : Nat} {F : List (List UInt8)} (h : ShFit K F) : shiftOk K F = true := by
  have := h.k1
  have := h.k3
  rw [shiftOk_all fun j hj => ?_]
  · simp only [Bool.and_eq_true, decide_eq_true_eq]
    exact ⟨⟨by omega, by omega⟩, h.n8⟩
  · unfold shOkAt
    have hm : F.getD j [] ∈ F := by
      rw [List.getD_eq_getElem?_getD, List.getElem?_eq_getElem hj]
      exact List.getElem_mem hj
    obtain ⟨h1, h2, h3⟩ := h.word _ hm
    simp only [Bool.and_eq_true, Bool.or_eq_true, decide_eq_true_eq]
    refine ⟨⟨h1, h2, h3⟩, ?_⟩
    by_cases hj0 : j = 0
    · exact .inl hj0
    · right
      have := h.asc (j - 1) (by omega)
      rwa [show j - 1 + 1 = j by omega] at this
end Go.Cm

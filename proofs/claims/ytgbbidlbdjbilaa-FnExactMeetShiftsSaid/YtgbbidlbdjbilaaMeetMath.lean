/- Plain laws: the words of two lists, sorted, each once. No dump is imported. -/
import Derived.Test.YtgbbidlbdjbilaaShPut
import Derived.Lib.SlicesCompact
namespace Go.Cm
open Go

theorem putR_has (x : List UInt8) : ∀ (l : List (List UInt8)), x ∈ putR x l
  | [] => List.mem_cons_self
  | y :: l => by
    unfold putR
    by_cases h1 : y < x
    · rw [if_pos h1]; exact List.mem_cons_of_mem _ (putR_has x l)
    · rw [if_neg h1]
      by_cases h2 : y = x
      · rw [if_pos h2, h2]; exact List.mem_cons_self
      · rw [if_neg h2]; exact List.mem_cons_self
theorem putR_keeps {x z : List UInt8} : ∀ {l : List (List UInt8)}, z ∈ l → z ∈ putR x l
  | [], h => by cases h
  | y :: l, h => by
    unfold putR
    by_cases h1 : y < x
    · rw [if_pos h1]
      rcases List.mem_cons.1 h with rfl | h
      · exact List.mem_cons_self
      · exact List.mem_cons_of_mem _ (putR_keeps h)
    · rw [if_neg h1]
      by_cases h2 : y = x
      · rw [if_pos h2]; exact h
      · rw [if_neg h2]; exact List.mem_cons_of_mem _ h
/-- the words of G put into F -/
def meetR (F G : List (List UInt8)) : List (List UInt8) := G.foldl (fun l x => putR x l) F
theorem meetR_nil (F : List (List UInt8)) : meetR F [] = F := rfl
theorem meetR_step (F G : List (List UInt8)) {k : Nat} (hk : k < G.length) : meetR F (G.take (k + 1)) = putR (G.getD k []) (meetR F (G.take k)) := by
  unfold meetR
  rw [List.take_succ_eq_append_getElem hk, List.foldl_append, List.getD_eq_getElem?_getD, List.getElem?_eq_getElem hk]
  rfl
theorem meetR_asc : ∀ (G : List (List UInt8)) {F : List (List UInt8)}, Asc F → Asc (meetR F G)
  | [], _, h => h
  | x :: G, _, h => meetR_asc G (putR_asc x h)
theorem meetR_mem : ∀ (G : List (List UInt8)) {F : List (List UInt8)} {z : List UInt8}, z ∈ meetR F G ↔ z ∈ F ∨ z ∈ G
  | [], F, z => by simp [meetR]
  | x :: G, F, z => by
    have := meetR_mem G (F := putR x F) (z := z)
    show z ∈ meetR (putR x F) G ↔ _
    rw [this]
    constructor
    · rintro (h | h)
      · rcases putR_mem h with rfl | h
        · exact .inr List.mem_cons_self
        · exact .inl h
      · exact .inr (List.mem_cons_of_mem _ h)
    · rintro (h | h)
      · exact .inl (putR_keeps h)
      · rcases List.mem_cons.1 h with rfl | h
        · exact .inl (putR_has _ _)
        · exact .inr h
theorem putR_length (x : List UInt8) : ∀ (l : List (List UInt8)), (putR x l).length ≤ l.length + 1
  | [] => by simp [putR]
  | y :: l => by
    have := putR_length x l
    unfold putR
    split
    · simp; omega
    · split <;> simp
theorem meetR_length : ∀ (G F : List (List UInt8)), (meetR F G).length ≤ F.length + G.length
  | [], F => by simp [meetR]
  | x :: G, F => by
    have h1 := meetR_length G (putR x F)
    have h2 := putR_length x F
    show (meetR (putR x F) G).length ≤ _
    simp only [List.length_cons]
    omega
/-- two rising lists of the same words are one -/
theorem asc_ext : ∀ {a b : List (List UInt8)}, Asc a → Asc b → (∀ z, z ∈ a ↔ z ∈ b) → a = b
  | [], [], _, _, _ => rfl
  | [], y :: b, _, _, h => by have := (h y).2 List.mem_cons_self; cases this
  | x :: a, [], _, _, h => by have := (h x).1 List.mem_cons_self; cases this
  | x :: a, y :: b, ha, hb, h => by
    obtain ⟨a1, a2⟩ := List.pairwise_cons.1 ha
    obtain ⟨b1, b2⟩ := List.pairwise_cons.1 hb
    have hxy : x = y := by
      rcases List.mem_cons.1 ((h x).1 List.mem_cons_self) with e | hx
      · exact e
      · rcases List.mem_cons.1 ((h y).2 List.mem_cons_self) with e | hy
        · exact e.symm
        · exact absurd (List.lt_trans (b1 x hx) (a1 y hy)) (List.lt_irrefl _)
    subst hxy
    rw [asc_ext a2 b2 fun z => ⟨fun hz => ?_, fun hz => ?_⟩]
    · rcases List.mem_cons.1 ((h z).1 (List.mem_cons_of_mem _ hz)) with e | hz'
      · subst e; exact absurd (a1 _ hz) (List.lt_irrefl _)
      · exact hz'
    · rcases List.mem_cons.1 ((h z).2 (List.mem_cons_of_mem _ hz)) with e | hz'
      · subst e; exact absurd (b1 _ hz) (List.lt_irrefl _)
      · exact hz'

/-! ### slices.Compact of a sorted list -/
theorem compactUpTo_spec {d : Array (List UInt8)} (hd : ∀ i j, i ≤ j → j < d.size → d[i]! ≤ d[j]!) : ∀ m, m ≤ d.size →
    Asc (Lib.compactUpTo d m) ∧ (∀ z, z ∈ Lib.compactUpTo d m ↔ ∃ j, j < m ∧ d[j]! = z)
  | 0, _ => ⟨List.Pairwise.nil, fun z => by simp [Lib.compactUpTo]⟩
  | m + 1, hm => by
    obtain ⟨h1, h2⟩ := compactUpTo_spec hd m (by omega)
    rw [Lib.compactUpTo_succ]
    by_cases h0 : m = 0
    · subst h0
      rw [show Lib.keeps d 0 = true by simp [Lib.keeps], if_pos rfl]
      refine ⟨?_, fun z => ?_⟩
      · simp [Lib.compactUpTo, Asc]
      · constructor
        · intro h; simp [Lib.compactUpTo] at h; exact ⟨0, by omega, h.symm⟩
        · rintro ⟨j, hj, e⟩; have : j = 0 := by omega
          subst this; simp [Lib.compactUpTo, e]
    · by_cases he : d[m]! = d[m - 1]!
      · rw [Lib.keeps_neg (by omega) he]
        simp only [Bool.false_eq_true, if_false, List.append_nil]
        refine ⟨h1, fun z => ?_⟩
        rw [h2]
        constructor
        · rintro ⟨j, hj, e⟩; exact ⟨j, by omega, e⟩
        · rintro ⟨j, hj, e⟩
          by_cases hjm : j = m
          · subst hjm; exact ⟨j - 1, by omega, by rw [← he]; exact e⟩
          · exact ⟨j, by omega, e⟩
      · rw [Lib.keeps_pos he, if_pos rfl]
        refine ⟨?_, fun z => ?_⟩
        · refine List.pairwise_append.2 ⟨h1, List.pairwise_singleton _ _, fun a ha b hb => ?_⟩
          rw [List.mem_singleton.1 hb]
          obtain ⟨j, hj, e⟩ := (h2 a).1 ha
          rw [← e]
          have q1 := hd j (m - 1) (by omega) (by omega)
          have q2 := hd (m - 1) m (by omega) (by omega)
          rcases Std.lt_trichotomy d[j]! d[m]! with h | h | h
          · exact h
          · exfalso
            apply he
            rw [h] at q1
            exact Std.le_antisymm q1 q2
          · exfalso
            have := List.le_trans q1 q2
            exact absurd (Std.lt_of_lt_of_le h this) (List.lt_irrefl _)
        · rw [List.mem_append, h2, List.mem_singleton]
          constructor
          · rintro (⟨j, hj, e⟩ | e)
            · exact ⟨j, by omega, e⟩
            · exact ⟨m, by omega, e.symm⟩
          · rintro ⟨j, hj, e⟩
            by_cases hjm : j = m
            · subst hjm; exact .inr e.symm
            · exact .inl ⟨j, by omega, e⟩
theorem compact_sorted {l : List (List UInt8)} (h : l.Pairwise (· ≤ ·)) : Asc (Lib.compact l) ∧ ∀ z, z ∈ Lib.compact l ↔ z ∈ l := by
  have hd : ∀ i j, i ≤ j → j < l.toArray.size → l.toArray[i]! ≤ l.toArray[j]! := by
    intro i j hij hj
    have hj' : j < l.length := by simpa using hj
    rw [getElem!_pos l.toArray i (by simp; omega), getElem!_pos l.toArray j hj]
    simp only [List.getElem_toArray]
    by_cases e : i = j
    · subst e; exact List.le_refl _
    · exact List.pairwise_iff_getElem.1 h i j (by omega) hj' (by omega)
  obtain ⟨h1, h2⟩ := compactUpTo_spec hd l.length (by simp)
  refine ⟨h1, fun z => ?_⟩
  unfold Lib.compact
  rw [h2]
  constructor
  · rintro ⟨j, hj, e⟩
    rw [getElem!_pos l.toArray j (by simpa using hj)] at e
    rw [← e]
    simp
  · intro hz
    obtain ⟨j, hj, e⟩ := List.mem_iff_getElem.1 hz
    exact ⟨j, hj, by rw [getElem!_pos l.toArray j (by simpa using hj)]; simpa using e⟩
theorem meet_compact {F G : List (List UInt8)} (hF : Asc F) : Lib.compact ((F ++ G).mergeSort fun x y => decide (x ≤ y)) = meetR F G := by
  obtain ⟨h1, h2⟩ := compact_sorted (sort_pair (F ++ G))
  refine asc_ext h1 (meetR_asc G hF) fun z => ?_
  rw [h2, meetR_mem, (List.mergeSort_perm (F ++ G) _).mem_iff, List.mem_append]
theorem ShFit.rising {K : Nat} {F : List (List UInt8)} (h : ShFit K F) : Asc F := by
  have hstep : ∀ q i, i + q + 1 < F.length → F.getD i [] < F.getD (i + q + 1) [] := by
    intro q
    induction q with
    | zero => exact fun i hi => (lessW_iff _ _).1 (h.asc i hi)
    | succ q ih => exact fun i hi => List.lt_trans (ih i (by omega)) ((lessW_iff _ _).1 (h.asc (i + q + 1) hi))
  refine List.pairwise_iff_getElem.2 fun i j hi hj hij => ?_
  have := hstep (j - i - 1) i (by omega)
  rw [show i + (j - i - 1) + 1 = j by omega] at this
  simpa [List.getD_eq_getElem?_getD, hi, hj] using this
theorem meet_ok {K : Nat} {F G : List (List UInt8)} (hF : ShFit K F) (hG : ShFit K G) : shiftOk K (meetR F G) = decide ((meetR F G).length ≤ 8) := by
  have h1 := hF.k1
  have h3 := hF.k3
  have ha := meetR_asc G hF.rising
  have hw : ∀ f ∈ meetR F G, areLet K f = true ∧ 1 ≤ f.length ∧ f.length ≤ 3 := by
    intro f hf
    rcases (meetR_mem G).1 hf with hf | hf
    · exact hF.word f hf
    · exact hG.word f hf
  rw [shiftOk_all fun j hj => ?_]
  · rw [decide_eq_true (show (1 : Int) ≤ K by omega), decide_eq_true (show (K : Int) ≤ 3 by omega)]
    rfl
  · unfold shOkAt
    have hm : (meetR F G).getD j [] ∈ meetR F G := by
      rw [List.getD_eq_getElem?_getD, List.getElem?_eq_getElem hj]
      exact List.getElem_mem hj
    obtain ⟨q1, q2, q3⟩ := hw _ hm
    rw [q1, decide_eq_true q2, decide_eq_true q3]
    simp only [Bool.and_self, Bool.true_and, Bool.or_eq_true, decide_eq_true_eq]
    by_cases h0 : j = 0
    · exact .inl h0
    · right
      refine (lessW_iff _ _).2 ?_
      have := List.pairwise_iff_getElem.1 ha (j - 1) j (by omega) hj (by omega)
      simpa [List.getD_eq_getElem?_getD, hj, show j - 1 < (meetR F G).length by omega] using this
/-- the meeting of two shifts -/
def meetO (L : Int) (F : List (List UInt8)) (L' : Int) (G : List (List UInt8)) : Option (List (List UInt8)) :=
  if shiftOk L F && (shiftOk L' G && decide (L = L')) then (if (meetR F G).length ≤ 8 then some (meetR F G) else none) else none
def meetL (L : Int) (F : List (List UInt8)) (L' : Int) (G : List (List UInt8)) : Int := if (meetO L F L' G).isSome then L else 0
theorem meetO_no {L L' : Int} {F G : List (List UInt8)} (h : shiftOk L F = false ∨ shiftOk L' G = false ∨ ¬ L = L') : meetO L F L' G = none := by
  unfold meetO
  rw [if_neg]
  rcases h with h | h | h
  · rw [h]; simp
  · rw [h]; simp
  · rw [decide_eq_false h]; simp
theorem meetO_yes {L : Int} {F G : List (List UInt8)} (h : shiftOk L F = true) (h' : shiftOk L G = true) (h8 : (meetR F G).length ≤ 8) : meetO L F L G = some (meetR F G) := by
  simp [meetO, h, h', h8]
theorem meetO_much {L L' : Int} {F G : List (List UInt8)} (h8 : ¬ (meetR F G).length ≤ 8) : meetO L F L' G = none := by
  unfold meetO
  rw [if_neg h8]
  split <;> rfl
theorem meetO_small (L L' : Int) (F G : List (List UInt8)) : ((meetO L F L' G).getD []).length ≤ 8 := by
  unfold meetO
  split
  · split
    · simpa
    · simp
  · simp
end Go.Cm

/- The search for a word without a source. No program in sight. -/
import Derived.Test.YtdempmpljekehaaOrphMath
namespace Go.Cm

abbrev Sw := List (Nat × List UInt8)
def setsOf (L : Sw) : List Nat := L.map (·.1)
def textsOf (L : Sw) : List (List UInt8) := L.map (·.2)
/-- one letter at one place -/
def stepW (K N : Nat) (o : ByteArray) (i a : Nat) (L : Sw) : Option (List UInt8) × Sw :=
  if nextS K N o ((setsOf L).getD i 0) (letN a) = 0 then (some ((textsOf L).getD i [] ++ [letN a]), L)
  else if nextS K N o ((setsOf L).getD i 0) (letN a) ∈ setsOf L then (none, L)
  else (none, L ++ [(nextS K N o ((setsOf L).getD i 0) (letN a), (textsOf L).getD i [] ++ [letN a])])
def goOn (f : Sw → Option (List UInt8) × Sw) (s : Option (List UInt8) × Sw) : Option (List UInt8) × Sw := match s with
  | (some w, L) => (some w, L)
  | (none, L) => f L
/-- the first a letters at one place -/
def stA (K N : Nat) (o : ByteArray) (i : Nat) (L : Sw) : Nat → Option (List UInt8) × Sw
  | 0 => (none, L)
  | a + 1 => goOn (stepW K N o i a) (stA K N o i L a)
/-- the first i places -/
def stI (K N : Nat) (o : ByteArray) : Nat → Option (List UInt8) × Sw
  | 0 => (none, [(2 ^ N - 1, [])])
  | i + 1 => goOn (fun L => if i < L.length then stA K N o i L K else (none, L)) (stI K N o i)
def orphL (K N : Nat) (o : ByteArray) : Option (List UInt8) := (stI K N o 1024).1

theorem stI_found {K N : Nat} {o : ByteArray} {i : Nat} {u : List UInt8} {L : Sw} (h : stI K N o i = (some u, L)) : ∀ j, stI K N o (i + j) = (some u, L)
  | 0 => h
  | j + 1 => by rw [← Nat.add_assoc, stI, stI_found h j]; rfl
theorem stI_end {K N : Nat} {o : ByteArray} {i : Nat} {L : Sw} (h : stI K N o i = (none, L)) (hl : L.length ≤ i) : ∀ j, stI K N o (i + j) = (none, L)
  | 0 => h
  | j + 1 => by
    rw [← Nat.add_assoc, stI, stI_end h hl j]
    show (if i + j < L.length then _ else _) = _
    rw [if_neg (by omega)]
theorem orphL_found {K N : Nat} {o : ByteArray} {i : Nat} {u : List UInt8} {L : Sw} (hi : i ≤ 1024) (h : stI K N o i = (some u, L)) : orphL K N o = some u := by
  have := stI_found h (1024 - i)
  unfold orphL
  rw [show 1024 = i + (1024 - i) by omega, this]
theorem orphL_end {K N : Nat} {o : ByteArray} {i : Nat} {L : Sw} (hi : i ≤ 1024) (h : stI K N o i = (none, L)) (hl : L.length ≤ i) : orphL K N o = none := by
  have := stI_end h hl (1024 - i)
  unfold orphL
  rw [show 1024 = i + (1024 - i) by omega, this]

theorem stA_found {K N : Nat} {o : ByteArray} {i a : Nat} {u : List UInt8} {L L' : Sw} (h : stA K N o i L a = (some u, L')) : ∀ j, stA K N o i L (a + j) = (some u, L')
  | 0 => h
  | j + 1 => by rw [← Nat.add_assoc, stA, stA_found h j]; rfl
theorem stI_of_stA {K N : Nat} {o : ByteArray} {i : Nat} {L : Sw} (h : stI K N o i = (none, L)) (hi : i < L.length) : stI K N o (i + 1) = stA K N o i L K := by
  rw [stI, h]
  show (if i < L.length then _ else _) = _
  rw [if_pos hi]

/-- a list of different numbers below a bound -/
theorem nodup_bound : ∀ (n : Nat) (l : List Nat), l.Nodup → (∀ x ∈ l, x < n) → l.length ≤ n
  | 0, l, _, h => by
    cases l with
    | nil => simp
    | cons a l => exact absurd (h a (by simp)) (Nat.not_lt_zero a)
  | n + 1, l, hn, h => by
    by_cases hm : n ∈ l
    · have h1 := nodup_bound n (l.erase n) (hn.erase n) (fun x hx => by
        have h2 := (List.Nodup.mem_erase_iff hn).1 hx
        have h3 := h x h2.2
        have := h2.1
        omega)
      rw [List.length_erase_of_mem hm] at h1
      omega
    · have h1 := nodup_bound n l hn (fun x hx => by
        have h3 := h x hx
        have : x ≠ n := fun e => hm (e ▸ hx)
        omega)
      omega

/-- what is known of the list -/
structure SwOk (N : Nat) (L : Sw) : Prop where
  nodup : (setsOf L).Nodup
  lt : ∀ x ∈ setsOf L, x < 2 ^ N
  word : ∀ i, ((textsOf L).getD i []).length ≤ i
theorem SwOk.length {N : Nat} {L : Sw} (h : SwOk N L) : L.length ≤ 2 ^ N := by
  have := nodup_bound (2 ^ N) (setsOf L) h.nodup h.lt
  simpa [setsOf] using this
theorem SwOk.start (N : Nat) : SwOk N [(2 ^ N - 1, [])] := by
  refine ⟨by simp [setsOf], fun x hx => ?_, fun i => ?_⟩
  · have : x = 2 ^ N - 1 := by simpa [setsOf] using hx
    have := Nat.pow_pos (n := N) (show 0 < 2 by omega)
    omega
  · cases i with
    | zero => simp [textsOf]
    | succ i => simp [textsOf]
theorem SwOk.push {N : Nat} {L : Sw} (h : SwOk N L) {T i : Nat} {u : List UInt8} (hT : T < 2 ^ N) (hm : T ∉ setsOf L) (hu : u.length ≤ i + 1) (hi : i < L.length) : SwOk N (L ++ [(T, u)]) := by
  refine ⟨?_, fun x hx => ?_, fun j => ?_⟩
  · simp only [setsOf, List.map_append, List.map_cons, List.map_nil]
    rw [List.nodup_append]
    refine ⟨h.nodup, by simp, ?_⟩
    intro a ha b hb
    have : b = T := by simpa using hb
    subst this
    intro e
    subst e
    exact hm ha
  · simp only [setsOf, List.map_append, List.map_cons, List.map_nil, List.mem_append] at hx
    rcases hx with hx | hx
    · exact h.lt x hx
    · have : x = T := by simpa using hx
      omega
  · have hl : (textsOf L).length = L.length := by simp [textsOf]
    simp only [textsOf, List.map_append, List.map_cons, List.map_nil]
    rw [List.getD_eq_getElem?_getD]
    by_cases hj : j < L.length
    · rw [List.getElem?_append_left (by simpa using hj)]
      have := h.word j
      rwa [List.getD_eq_getElem?_getD] at this
    · rw [List.getElem?_append_right (by simp; omega)]
      by_cases e : j = L.length
      · subst e
        simp
        omega
      · rw [List.getElem?_eq_none (by simp; omega)]
        simp
end Go.Cm

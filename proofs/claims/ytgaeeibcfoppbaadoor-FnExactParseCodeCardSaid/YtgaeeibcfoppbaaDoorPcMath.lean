/- Plain laws: a text cut at a byte; single digits; a code's text read. No dump is imported. -/
import Derived.Test.YtgaeeibcfoppbaaDoorCodeMath
import Derived.Test.YtgaeeibcfoppbaaDoorWordMath
import Derived.Lib.SplitLaws
import Derived.Lib.IndexBytes
import Derived.Lib.AtoiAllCases
import Derived.Lib.ItoaMem
namespace Go.Cm
open Go

/-- a text cut at each c -/
def splitL (c : UInt8) : List UInt8 → List (List UInt8)
  | [] => [[]]
  | x :: l => if x = c then [] :: splitL c l else match splitL c l with
    | p :: ps => (x :: p) :: ps
    | [] => [[x]]
theorem splitL_cons (c x : UInt8) (l : List UInt8) : splitL c (x :: l) = if x = c then [] :: splitL c l else match splitL c l with
    | p :: ps => (x :: p) :: ps
    | [] => [[x]] := rfl
theorem splitL_ne (c : UInt8) : ∀ l, splitL c l ≠ []
  | [] => by simp [splitL]
  | x :: l => by
    unfold splitL
    split
    · simp
    · split <;> simp
theorem splitL_none {c : UInt8} : ∀ {l : List UInt8}, ¬ c ∈ l → splitL c l = [l]
  | [], _ => rfl
  | x :: l, h => by
    have h1 : ¬ x = c := fun e => h (by rw [e]; exact List.mem_cons_self)
    have h2 := splitL_none (c := c) (l := l) (fun h' => h (List.mem_cons_of_mem _ h'))
    unfold splitL
    rw [if_neg h1, h2]
theorem splitL_at {c : UInt8} : ∀ {a : List UInt8} (r : List UInt8), ¬ c ∈ a → splitL c (a ++ c :: r) = a :: splitL c r
  | [], r, _ => by
    show splitL c (c :: r) = _
    rw [splitL_cons, if_pos rfl]
  | x :: a, r, h => by
    have h1 : ¬ x = c := fun e => h (by rw [e]; exact List.mem_cons_self)
    have h2 := splitL_at (c := c) (a := a) r (fun h' => h (List.mem_cons_of_mem _ h'))
    show splitL c (x :: (a ++ c :: r)) = _
    rw [splitL_cons, if_neg h1, h2]
theorem split_splitK (c : UInt8) : ∀ (n : Nat) (l : List UInt8), l.length ≤ n → Lib.splitK [c] 0 (Lib.count l [c]) l = splitL c l := by
  intro n
  induction n with
  | zero =>
    intro l hl
    have : l = [] := List.eq_nil_of_length_eq_zero (by omega)
    subst this
    have h0 : Lib.index [] [c] = -1 := rfl
    rw [Lib.count_miss h0]
    rfl
  | succ n ih =>
    intro l hl
    by_cases hm : Lib.indexByte l c = -1
    · have hi : Lib.index l [c] = -1 := by rw [Lib.index_one]; exact hm
      rw [Lib.count_miss hi, splitL_none]
      · rfl
      · intro hc
        obtain ⟨k, hk, e⟩ := List.mem_iff_getElem.1 hc
        exact Lib.indexByte_none hm k (by rw [List.getElem?_eq_getElem hk, e])
    · have hge := Lib.indexByte_ge l c
      obtain ⟨o, ho⟩ : ∃ o : Nat, Lib.indexByte l c = o := ⟨(Lib.indexByte l c).toNat, by omega⟩
      obtain ⟨h1, h2⟩ := Lib.indexByte_some ho
      have hi : Lib.index l [c] = o := by rw [Lib.index_one]; exact ho
      have hol : o < l.length := (List.getElem?_eq_some_iff.1 h1).1
      have hoe : l[o] = c := (List.getElem?_eq_some_iff.1 h1).2
      have hsplit : l = l.take o ++ c :: l.drop (o + 1) := by
        rw [← hoe, ← List.drop_eq_getElem_cons hol, List.take_append_drop]
      have hna : ¬ c ∈ l.take o := by
        intro hc
        obtain ⟨k, hk, e⟩ := List.mem_iff_getElem.1 hc
        rw [List.length_take] at hk
        rw [List.getElem_take] at e
        exact h2 k (by omega) (by rw [List.getElem?_eq_getElem (by omega), e])
      rw [Lib.count_hit (by simp) hi, show 1 + Lib.count (l.drop (o + [c].length)) [c] = Lib.count (l.drop (o + 1)) [c] + 1 by rw [Nat.add_comm]; rfl]
      have hk : Lib.splitK [c] 0 (Lib.count (l.drop (o + 1)) [c] + 1) l = l.take o :: Lib.splitK [c] 0 (Lib.count (l.drop (o + 1)) [c]) (l.drop (o + 1)) := by
        show (if Lib.index l [c] == -1 then [l] else l.take ((Lib.index l [c]).toNat + 0) :: Lib.splitK [c] 0 _ (l.drop ((Lib.index l [c]).toNat + [c].length))) = _
        rw [hi, if_neg (by simp <;> omega)]
        simp
      rw [hk, ih _ (by rw [List.length_drop]; omega)]
      conv => rhs; rw [hsplit]
      rw [splitL_at _ hna]

/-- the pieces that are cut off so far and the place where the next one begins -/
def partsTo (c : UInt8) (l : List UInt8) : Nat → List (List UInt8) × Nat
  | 0 => ([], 0)
  | i + 1 => if i < l.length ∧ ¬ l.getD i 0 = c then partsTo c l i else ((partsTo c l i).1 ++ [(l.take i).drop (partsTo c l i).2], i + 1)
theorem partsTo_skip {c : UInt8} {l : List UInt8} {i : Nat} (h : i < l.length) (hc : ¬ l.getD i 0 = c) : partsTo c l (i + 1) = partsTo c l i := if_pos ⟨h, hc⟩
theorem partsTo_cut {c : UInt8} {l : List UInt8} {i : Nat} (h : ¬ i < l.length ∨ l.getD i 0 = c) : partsTo c l (i + 1) = ((partsTo c l i).1 ++ [(l.take i).drop (partsTo c l i).2], i + 1) := by
  refine if_neg ?_
  rintro ⟨h1, h2⟩
  rcases h with h | h
  · exact h h1
  · exact h2 h
theorem partsTo_le (c : UInt8) (l : List UInt8) : ∀ i, (partsTo c l i).2 ≤ i ∧ (partsTo c l i).1.length ≤ i
  | 0 => ⟨Nat.le_refl _, Nat.le_refl _⟩
  | i + 1 => by
    have := partsTo_le c l i
    unfold partsTo
    split
    · omega
    · simp only [List.length_append, List.length_singleton]
      omega
theorem drop_split {l : List UInt8} {f i : Nat} (hf : f ≤ i) (hi : i ≤ l.length) : l.drop f = (l.take i).drop f ++ l.drop i := by
  rw [← List.drop_append_of_le_length (by rw [List.length_take]; omega), List.take_append_drop]
/-- what is cut so far, and what is still to be cut, make the whole -/
theorem partsTo_inv (c : UInt8) (l : List UInt8) : ∀ i, i ≤ l.length → splitL c l = (partsTo c l i).1 ++ splitL c (l.drop (partsTo c l i).2) ∧ ¬ c ∈ (l.take i).drop (partsTo c l i).2
  | 0, _ => ⟨rfl, by simp [partsTo]⟩
  | i + 1, hi => by
    obtain ⟨h1, h2⟩ := partsTo_inv c l i (by omega)
    have hle := (partsTo_le c l i).1
    have hg : l.getD i 0 = l[i] := by rw [List.getD_eq_getElem?_getD, List.getElem?_eq_getElem (by omega), Option.getD_some]
    by_cases hc : l.getD i 0 = c
    · rw [partsTo_cut (.inr hc)]
      refine ⟨?_, by simp⟩
      have hs : l.drop (partsTo c l i).2 = (l.take i).drop (partsTo c l i).2 ++ c :: l.drop (i + 1) := by
        rw [drop_split hle (by omega), List.drop_eq_getElem_cons (show i < l.length by omega), ← hg, hc]
      rw [h1, hs, splitL_at _ h2, List.append_assoc]
      rfl
    · rw [partsTo_skip (by omega) hc]
      refine ⟨h1, ?_⟩
      rw [List.take_succ_eq_append_getElem (by omega), List.drop_append_of_le_length (by rw [List.length_take]; omega)]
      intro hm
      rcases List.mem_append.1 hm with hm | hm
      · exact h2 hm
      · exact hc (by rw [hg]; exact (List.mem_singleton.1 hm).symm)
theorem partsTo_all (c : UInt8) (l : List UInt8) : (partsTo c l (l.length + 1)).1 = splitL c l := by
  obtain ⟨h1, h2⟩ := partsTo_inv c l l.length (Nat.le_refl _)
  rw [partsTo_cut (.inl (by omega)), h1]
  rw [List.take_of_length_le (Nat.le_refl _)] at h2 ⊢
  rw [splitL_none h2]
theorem splitL_len (c : UInt8) : ∀ l, (splitL c l).length ≤ l.length + 1
  | [] => by simp [splitL]
  | x :: l => by
    have := splitL_len c l
    unfold splitL
    split
    · simp; omega
    · split
      · next h => rw [h] at this; simp at this ⊢; omega
      · simp
theorem splitL_mem (c : UInt8) : ∀ (l : List UInt8), ∀ p ∈ splitL c l, p.length ≤ l.length
  | [], p, h => by simp [splitL] at h; simp [h]
  | x :: l, p, h => by
    have ih := splitL_mem c l
    unfold splitL at h
    split at h
    · rcases List.mem_cons.1 h with rfl | h
      · simp
      · have := ih p h; simp; omega
    · split at h
      · next q ps hq =>
        rcases List.mem_cons.1 h with rfl | h
        · have := ih q (by rw [hq]; exact List.mem_cons_self); simp; omega
        · have := ih p (by rw [hq]; exact List.mem_cons_of_mem _ h); simp; omega
      · have hp := List.mem_singleton.1 h
        rw [hp]; simp

/-! ### single digits -/
def digC (d : Nat) : UInt8 := UInt8.ofNat (48 + d)
theorem itoa_dig {d : Nat} (h : d < 10) : Lib.itoa d = [digC d] := by
  rw [Lib.itoa_nonneg, Lib.decDigits, dif_pos h]
  rfl
theorem atoiAll_dig : ∀ {d : Nat}, d < 10 → Lib.atoiAll [digC d] = .ok (d : Int)
  | 0, _ => rfl
  | 1, _ => rfl
  | 2, _ => rfl
  | 3, _ => rfl
  | 4, _ => rfl
  | 5, _ => rfl
  | 6, _ => rfl
  | 7, _ => rfl
  | 8, _ => rfl
  | 9, _ => rfl
  | n + 10, h => by omega
/-- what a reader of numerals tells: if it says yes the text is the number's numeral; and of a digit it says yes -/
def NumR (s : List UInt8) (z : Int) (b : Bool) : Prop := (b = true → s = Lib.itoa z) ∧ ∀ d, d < 10 → s = [digC d] → b = true ∧ z = d
theorem NumR.no {s : List UInt8} (h : ∀ d, d < 10 → s ≠ [digC d]) : NumR s 0 false := And.intro (fun e => by simp at e) (fun d hd e => absurd e (h d hd))
theorem NumR.yes {s : List UInt8} {z : Int} (h : s = Lib.itoa z) (hz : ∀ d : Nat, d < 10 → s = [digC d] → z = d) : NumR s z true := And.intro (fun _ => h) (fun d hd e => And.intro rfl (hz d hd e))

/-- the digit that a text is -/
def digV (p : List UInt8) : Nat := (p.getD 0 0).toNat - 48
theorem digV_dig {k : Nat} (h : k < 10) : digV [digC k] = k := by
  have h1 : (digC k).toNat = (48 + k) % 256 := rfl
  show (digC k).toNat - 48 = k
  omega
theorem digC_inj {a b : Nat} (ha : a < 10) (hb : b < 10) (h : digC a = digC b) : a = b := by
  have h1 : (digC a).toNat = (48 + a) % 256 := rfl
  have h2 : (digC b).toNat = (48 + b) % 256 := rfl
  have := congrArg UInt8.toNat h
  omega
/-- a code's text read -/
def parseC (s : List UInt8) : Option (Nat × Nat × ByteArray) :=
  match splitL 32 s with
  | [p, q, o] => if (p = [digC (digV p)] ∧ digV p < 10) ∧ (q = [digC (digV q)] ∧ digV q < 10) ∧ codeOk (digV p) (digV q) (mkS o) = true then some (digV p, digV q, mkS o) else none
  | _ => none
theorem parseC_few {s : List UInt8} (h : (splitL 32 s).length ≠ 3) : parseC s = none := by
  unfold parseC
  split
  · next e => rw [e] at h; simp at h
  · rfl
theorem parseC_yes {s p q o : List UInt8} {k n : Nat} (h : splitL 32 s = [p, q, o]) (hk : k < 10) (hn : n < 10) (hp : p = [digC k]) (hq : q = [digC n]) (hc : codeOk k n (mkS o) = true) : parseC s = some (k, n, mkS o) := by
  unfold parseC
  rw [h]
  have h1 : digV p = k := by rw [hp]; exact digV_dig hk
  have h2 : digV q = n := by rw [hq]; exact digV_dig hn
  simp only [h1, h2]
  rw [if_pos ⟨⟨hp, hk⟩, ⟨hq, hn⟩, hc⟩]
theorem parseC_no {s p q o : List UInt8} (h : splitL 32 s = [p, q, o]) (hc : ∀ k n, k < 10 → n < 10 → p = [digC k] → q = [digC n] → codeOk k n (mkS o) = false) : parseC s = none := by
  unfold parseC
  rw [h]
  show (if _ then _ else _) = none
  rw [if_neg]
  rintro ⟨⟨h1, h2⟩, ⟨h3, h4⟩, h5⟩
  rw [hc _ _ h2 h4 h1 h3] at h5
  cases h5
end Go.Cm

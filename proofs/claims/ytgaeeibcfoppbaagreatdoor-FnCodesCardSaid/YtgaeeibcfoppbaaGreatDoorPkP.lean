/- Several texts of mine in one: PcMath, FmtA, ShR, PcA, PcB, PcS. -/
import Derived.Test.YtgaeeibcfoppbaaGreatDoorPkM
import Derived.Lib.SplitLaws
import Derived.Lib.IndexBytes
import Derived.Lib.AtoiAllCases
import Derived.Lib.ItoaMem
import Derived.Test.YtgaeeibcfoppbaaGreatDoorPkC
import Derived.Test.YtgaeeibcfoppbaaGreatDoorShelf
import Derived.Lib.ItoaLen
import Derived.Lib.LaidTab
import Derived.Sort.OwnSorted
import Derived.Lib.SmallJoins
/- Plain laws: a text cut at a byte; single digits; a code's text read. No dump is imported. -/
namespace Go.Cm
open Go

/-- a text cut at each c -/
def splitL (c : UInt8) : List UInt8 → List (List UInt8)
  | [] => [[]]
  | x :: l => if x = c then [] :: splitL c l else match splitL c l with
    | p :: ps => (x :: p) :: ps
    | [] => [[x]]
theorem splitL_cons (c x : UInt8) (l : List UInt8) : splitL c (x :: l) = if x = c then [] :: splitL c l else match splitL c l with
    | p :: ps => (x :: p) :: ps
    | [] => [[x]] := rfl
theorem splitL_ne (c : UInt8) : ∀ l, splitL c l ≠ []
  | [] => by simp [splitL]
  | x :: l => by
    unfold splitL
    split
    · simp
    · split <;> simp
theorem splitL_none {c : UInt8} : ∀ {l : List UInt8}, ¬ c ∈ l → splitL c l = [l]
  | [], _ => rfl
  | x :: l, h => by
    have h1 : ¬ x = c := fun e => h (by rw [e]; exact List.mem_cons_self)
    have h2 := splitL_none (c := c) (l := l) (fun h' => h (List.mem_cons_of_mem _ h'))
    unfold splitL
    rw [if_neg h1, h2]
theorem splitL_at {c : UInt8} : ∀ {a : List UInt8} (r : List UInt8), ¬ c ∈ a → splitL c (a ++ c :: r) = a :: splitL c r
  | [], r, _ => by
    show splitL c (c :: r) = _
    rw [splitL_cons, if_pos rfl]
  | x :: a, r, h => by
    have h1 : ¬ x = c := fun e => h (by rw [e]; exact List.mem_cons_self)
    have h2 := splitL_at (c := c) (a := a) r (fun h' => h (List.mem_cons_of_mem _ h'))
    show splitL c (x :: (a ++ c :: r)) = _
    rw [splitL_cons, if_neg h1, h2]
theorem split_splitK (c : UInt8) : ∀ (n : Nat) (l : List UInt8), l.length ≤ n → Lib.splitK [c] 0 (Lib.count l [c]) l = splitL c l := by
  intro n
  induction n with
  | zero =>
    intro l hl
    have : l = [] := List.eq_nil_of_length_eq_zero (by omega)
    subst this
    have h0 : Lib.index [] [c] = -1 := rfl
    rw [Lib.count_miss h0]
    rfl
  | succ n ih =>
    intro l hl
    by_cases hm : Lib.indexByte l c = -1
    · have hi : Lib.index l [c] = -1 := by rw [Lib.index_one]; exact hm
      rw [Lib.count_miss hi, splitL_none]
      · rfl
      · intro hc
        obtain ⟨k, hk, e⟩ := List.mem_iff_getElem.1 hc
        exact Lib.indexByte_none hm k (by rw [List.getElem?_eq_getElem hk, e])
    · have hge := Lib.indexByte_ge l c
      obtain ⟨o, ho⟩ : ∃ o : Nat, Lib.indexByte l c = o := ⟨(Lib.indexByte l c).toNat, by omega⟩
      obtain ⟨h1, h2⟩ := Lib.indexByte_some ho
      have hi : Lib.index l [c] = o := by rw [Lib.index_one]; exact ho
      have hol : o < l.length := (List.getElem?_eq_some_iff.1 h1).1
      have hoe : l[o] = c := (List.getElem?_eq_some_iff.1 h1).2
      have hsplit : l = l.take o ++ c :: l.drop (o + 1) := by
        rw [← hoe, ← List.drop_eq_getElem_cons hol, List.take_append_drop]
      have hna : ¬ c ∈ l.take o := by
        intro hc
        obtain ⟨k, hk, e⟩ := List.mem_iff_getElem.1 hc
        rw [List.length_take] at hk
        rw [List.getElem_take] at e
        exact h2 k (by omega) (by rw [List.getElem?_eq_getElem (by omega), e])
      rw [Lib.count_hit (by simp) hi, show 1 + Lib.count (l.drop (o + [c].length)) [c] = Lib.count (l.drop (o + 1)) [c] + 1 by rw [Nat.add_comm]; rfl]
      have hk : Lib.splitK [c] 0 (Lib.count (l.drop (o + 1)) [c] + 1) l = l.take o :: Lib.splitK [c] 0 (Lib.count (l.drop (o + 1)) [c]) (l.drop (o + 1)) := by
        show (if Lib.index l [c] == -1 then [l] else l.take ((Lib.index l [c]).toNat + 0) :: Lib.splitK [c] 0 _ (l.drop ((Lib.index l [c]).toNat + [c].length))) = _
        rw [hi, if_neg (by simp <;> omega)]
        simp
      rw [hk, ih _ (by rw [List.length_drop]; omega)]
      conv => rhs; rw [hsplit]
      rw [splitL_at _ hna]

/-- the pieces that are cut off so far and the place where the next one begins -/
def partsTo (c : UInt8) (l : List UInt8) : Nat → List (List UInt8) × Nat
  | 0 => ([], 0)
  | i + 1 => if i < l.length ∧ ¬ l.getD i 0 = c then partsTo c l i else ((partsTo c l i).1 ++ [(l.take i).drop (partsTo c l i).2], i + 1)
theorem partsTo_skip {c : UInt8} {l : List UInt8} {i : Nat} (h : i < l.length) (hc : ¬ l.getD i 0 = c) : partsTo c l (i + 1) = partsTo c l i := if_pos ⟨h, hc⟩
theorem partsTo_cut {c : UInt8} {l : List UInt8} {i : Nat} (h : ¬ i < l.length ∨ l.getD i 0 = c) : partsTo c l (i + 1) = ((partsTo c l i).1 ++ [(l.take i).drop (partsTo c l i).2], i + 1) := by
  refine if_neg ?_
  rintro ⟨h1, h2⟩
  rcases h with h | h
  · exact h h1
  · exact h2 h
theorem partsTo_le (c : UInt8) (l : List UInt8) : ∀ i, (partsTo c l i).2 ≤ i ∧ (partsTo c l i).1.length ≤ i
  | 0 => ⟨Nat.le_refl _, Nat.le_refl _⟩
  | i + 1 => by
    have := partsTo_le c l i
    unfold partsTo
    split
    · omega
    · simp only [List.length_append, List.length_singleton]
      omega
theorem drop_split {l : List UInt8} {f i : Nat} (hf : f ≤ i) (hi : i ≤ l.length) : l.drop f = (l.take i).drop f ++ l.drop i := by
  rw [← List.drop_append_of_le_length (by rw [List.length_take]; omega), List.take_append_drop]
/-- what is cut so far, and what is still to be cut, make the whole -/
theorem partsTo_inv (c : UInt8) (l : List UInt8) : ∀ i, i ≤ l.length → splitL c l = (partsTo c l i).1 ++ splitL c (l.drop (partsTo c l i).2) ∧ ¬ c ∈ (l.take i).drop (partsTo c l i).2
  | 0, _ => ⟨rfl, by simp [partsTo]⟩
  | i + 1, hi => by
    obtain ⟨h1, h2⟩ := partsTo_inv c l i (by omega)
    have hle := (partsTo_le c l i).1
    have hg : l.getD i 0 = l[i] := by rw [List.getD_eq_getElem?_getD, List.getElem?_eq_getElem (by omega), Option.getD_some]
    by_cases hc : l.getD i 0 = c
    · rw [partsTo_cut (.inr hc)]
      refine ⟨?_, by simp⟩
      have hs : l.drop (partsTo c l i).2 = (l.take i).drop (partsTo c l i).2 ++ c :: l.drop (i + 1) := by
        rw [drop_split hle (by omega), List.drop_eq_getElem_cons (show i < l.length by omega), ← hg, hc]
      rw [h1, hs, splitL_at _ h2, List.append_assoc]
      rfl
    · rw [partsTo_skip (by omega) hc]
      refine ⟨h1, ?_⟩
      rw [List.take_succ_eq_append_getElem (by omega), List.drop_append_of_le_length (by rw [List.length_take]; omega)]
      intro hm
      rcases List.mem_append.1 hm with hm | hm
      · exact h2 hm
      · exact hc (by rw [hg]; exact (List.mem_singleton.1 hm).symm)
theorem partsTo_all (c : UInt8) (l : List UInt8) : (partsTo c l (l.length + 1)).1 = splitL c l := by
  obtain ⟨h1, h2⟩ := partsTo_inv c l l.length (Nat.le_refl _)
  rw [partsTo_cut (.inl (by omega)), h1]
  rw [List.take_of_length_le (Nat.le_refl _)] at h2 ⊢
  rw [splitL_none h2]
theorem splitL_len (c : UInt8) : ∀ l, (splitL c l).length ≤ l.length + 1
  | [] => by simp [splitL]
  | x :: l => by
    have := splitL_len c l
    unfold splitL
    split
    · simp; omega
    · split
      · next h => rw [h] at this; simp at this ⊢; omega
      · simp
theorem splitL_mem (c : UInt8) : ∀ (l : List UInt8), ∀ p ∈ splitL c l, p.length ≤ l.length
  | [], p, h => by simp [splitL] at h; simp [h]
  | x :: l, p, h => by
    have ih := splitL_mem c l
    unfold splitL at h
    split at h
    · rcases List.mem_cons.1 h with rfl | h
      · simp
      · have := ih p h; simp; omega
    · split at h
      · next q ps hq =>
        rcases List.mem_cons.1 h with rfl | h
        · have := ih q (by rw [hq]; exact List.mem_cons_self); simp; omega
        · have := ih p (by rw [hq]; exact List.mem_cons_of_mem _ h); simp; omega
      · have hp := List.mem_singleton.1 h
        rw [hp]; simp

/-! ### single digits -/
def digC (d : Nat) : UInt8 := UInt8.ofNat (48 + d)
theorem itoa_dig {d : Nat} (h : d < 10) : Lib.itoa d = [digC d] := by
  rw [Lib.itoa_nonneg, Lib.decDigits, dif_pos h]
  rfl
theorem atoiAll_dig : ∀ {d : Nat}, d < 10 → Lib.atoiAll [digC d] = .ok (d : Int)
  | 0, _ => rfl
  | 1, _ => rfl
  | 2, _ => rfl
  | 3, _ => rfl
  | 4, _ => rfl
  | 5, _ => rfl
  | 6, _ => rfl
  | 7, _ => rfl
  | 8, _ => rfl
  | 9, _ => rfl
  | n + 10, h => by omega
/-- what a reader of numerals tells: if it says yes the text is the number's numeral; and of a digit it says yes -/
def NumR (s : List UInt8) (z : Int) (b : Bool) : Prop := (b = true → s = Lib.itoa z) ∧ ∀ d, d < 10 → s = [digC d] → b = true ∧ z = d
theorem NumR.no {s : List UInt8} (h : ∀ d, d < 10 → s ≠ [digC d]) : NumR s 0 false := And.intro (fun e => by simp at e) (fun d hd e => absurd e (h d hd))
theorem NumR.yes {s : List UInt8} {z : Int} (h : s = Lib.itoa z) (hz : ∀ d : Nat, d < 10 → s = [digC d] → z = d) : NumR s z true := And.intro (fun _ => h) (fun d hd e => And.intro rfl (hz d hd e))

/-- the digit that a text is -/
def digV (p : List UInt8) : Nat := (p.getD 0 0).toNat - 48
theorem digV_dig {k : Nat} (h : k < 10) : digV [digC k] = k := by
  have h1 : (digC k).toNat = (48 + k) % 256 := rfl
  show (digC k).toNat - 48 = k
  omega
theorem digC_inj {a b : Nat} (ha : a < 10) (hb : b < 10) (h : digC a = digC b) : a = b := by
  have h1 : (digC a).toNat = (48 + a) % 256 := rfl
  have h2 : (digC b).toNat = (48 + b) % 256 := rfl
  have := congrArg UInt8.toNat h
  omega
/-- a code's text read -/
def parseC (s : List UInt8) : Option (Nat × Nat × ByteArray) :=
  match splitL 32 s with
  | [p, q, o] => if (p = [digC (digV p)] ∧ digV p < 10) ∧ (q = [digC (digV q)] ∧ digV q < 10) ∧ codeOk (digV p) (digV q) (mkS o) = true then some (digV p, digV q, mkS o) else none
  | _ => none
theorem parseC_few {s : List UInt8} (h : (splitL 32 s).length ≠ 3) : parseC s = none := by
  unfold parseC
  split
  · next e => rw [e] at h; simp at h
  · rfl
theorem parseC_yes {s p q o : List UInt8} {k n : Nat} (h : splitL 32 s = [p, q, o]) (hk : k < 10) (hn : n < 10) (hp : p = [digC k]) (hq : q = [digC n]) (hc : codeOk k n (mkS o) = true) : parseC s = some (k, n, mkS o) := by
  unfold parseC
  rw [h]
  have h1 : digV p = k := by rw [hp]; exact digV_dig hk
  have h2 : digV q = n := by rw [hq]; exact digV_dig hn
  simp only [h1, h2]
  rw [if_pos ⟨⟨hp, hk⟩, ⟨hq, hn⟩, hc⟩]
theorem parseC_no {s p q o : List UInt8} (h : splitL 32 s = [p, q, o]) (hc : ∀ k n, k < 10 → n < 10 → p = [digC k] → q = [digC n] → codeOk k n (mkS o) = false) : parseC s = none := by
  unfold parseC
  rw [h]
  show (if _ then _ else _) = none
  rw [if_neg]
  rintro ⟨⟨h1, h2⟩, ⟨h3, h4⟩, h5⟩
  rw [hc _ _ h2 h4 h1 h3] at h5
  cases h5
end Go.Cm

/- Contracts: the decimal numeral of any number, by the program and by the reference. -/
namespace Go.Proofs.YtgaeeibcfoppbaaGreatDoor
open Go.RowKit Go.Cm

/-- the library's table of powers of ten is as the program's text lays it -/
def TabC (w : World) : Prop := Lib.TabIs Tryz.prog w "internal/strconv.uint64pow10" .u64 Lib.pow10Tab
theorem tab_named : Tryz.prog.globalNamed "internal/strconv.uint64pow10" = some 5 := by kernel_rfl
theorem TabC.ext {w w' : World} (h : TabC w) (hx : Ext w w') : TabC w' := by
  unfold TabC Lib.TabIs World.var? at h ⊢
  rw [tab_named] at h ⊢
  simp only [Option.bind_some] at h ⊢
  have hlt : 5 < w.heap.size := by
    rcases Nat.lt_or_ge 5 w.heap.size with h' | h'
    · exact h'
    · rw [Array.getElem?_eq_none h'] at h; cases h
  rw [Below.block hx _ hlt]
  exact h
theorem ext_grow (w : World) (k : Nat) (os : Array Obj) : Ext w (Sort.grow (w.drewN k) os) := by
  refine ⟨rfl, rfl, rfl, by simp, fun b hb => ?_⟩
  rw [Sort.heap_grow_old _ _ (by simpa using hb)]
  rfl
theorem itoa_len {z : Int} (h0 : -9223372036854775808 ≤ z) (h1 : z ≤ 9223372036854775807) : (Lib.itoa z).length ≤ 21 := Lib.itoa_length_le z h0 h1

theorem impl_FormatInt_any (z : Int) (w : World) (h0 : -9223372036854775808 ≤ z) (h1 : z ≤ 9223372036854775807) (ht : TabC w) :
    Calls Tryz.prog 50 #[.int .i64 z] w fun e w' => e = .returned (.string (mkS (Lib.itoa z))) ∧ Ext w w' := by
  have HC := Lib.hid (Tryz.strconv_Itoa z h0 h1 w ht)
  go_enter Tryz.func50, Tryz.ntmps50
  go_wp2_with fail
  with_reducible refine HC.out.mono ?_
  rintro e w1 ⟨rfl, k, os, rfl⟩
  go_wp2
  go_ret
  exact ⟨rfl, ext_grow _ _ _⟩

/-- what is left of a number's digits -/
def leftD (m : Nat) : List UInt8 := if m = 0 then [] else Lib.decDigits m
theorem leftD_step {m : Nat} (h : 0 < m) : leftD m = leftD (m / 10) ++ [UInt8.ofNat (48 + m % 10)] := by
  unfold leftD
  rw [if_neg (by omega)]
  by_cases h10 : m < 10
  · rw [if_pos (by omega), Lib.decDigits, dif_pos h10, Nat.mod_eq_of_lt h10]
    rfl
  · rw [if_neg (by omega), Lib.decDigits, dif_neg h10]
theorem dec_convert {w : World} {v : Value} {i : Nat} (hi : i < 10) (h : BoxOf (.int .u8 (48 + (i : Int))) v w) : (convert 22 9 v).run Tryz.prog w = .ok (.string (mkS [UInt8.ofNat (48 + i)])) w := by
  obtain ⟨b, rfl, hc⟩ := h
  have hl3 : ((UInt8.ofNat (48 + i)).toNat : Int) = 48 + i := by
    have : (UInt8.ofNat (48 + i)).toNat = (48 + i) % 256 := rfl
    omega
  obtain ⟨c, hcc⟩ : ∃ c, c = UInt8.ofNat (48 + i) := ⟨_, rfl⟩
  rw [← hcc] at hl3 ⊢
  refine run_convert_bytes_back w _ _ 5 ⟨b, 0, none⟩ 1 [c] Tryz.underlying22 Tryz.underlying5 Tryz.underlying9 fun j hj => ?_
  have hj0 : j = 0 := by simp at hj; omega
  subst hj0
  simpa [Addr.add, hl3] using hc

set_option maxRecDepth 100000 in
set_option maxHeartbeats 1000000 in
theorem spec_FormatInt_any (z : Int) (w : World) (h0 : -9223372036854775808 ≤ z) (h1 : z ≤ 9223372036854775807) :
    Calls Tryz.prog 51 #[.int .i64 z] w fun e w' => e = .returned (.string (mkS (Lib.itoa z))) ∧ Ext w w' := by
  by_cases hz0 : z = 0
  · subst hz0
    have hv : mkS (Lib.itoa 0) = ⟨#[48]⟩ := by
      rw [show Lib.itoa 0 = [48] by unfold Lib.itoa; rw [if_neg (by omega)]; rw [show (0 : Int).toNat = 0 from rfl, Lib.decDigits, dif_pos (by omega)]; rfl]
      rfl
    rw [hv]
    go_enter Tryz.func51, Tryz.ntmps51
    go_wp2
    go_ret
    exact ⟨rfl, Ext.refl _⟩
  by_cases hneg : z < 0
  · obtain ⟨u, hu, rfl⟩ : ∃ u : Nat, 1 ≤ u ∧ z = -(u : Int) := ⟨z.natAbs, by omega, by omega⟩
    have hlen := itoa_len h0 h1
    rw [Lib.itoa_neg u hu] at hlen ⊢
    obtain ⟨a, ha⟩ : ∃ a : Int, a = -(u : Int) := ⟨_, rfl⟩
    rw [← ha] at h0 h1 hz0 hneg ⊢
    have HU := Lib.hid (And.intro hlen (And.intro hu ha))
    have hb : (a == 0) = false := by simpa using hz0
    have hu2 : u ≤ 9223372036854775808 := by omega
    clear hlen hu ha
    go_enter Tryz.func51, Tryz.ntmps51
    go_wp2
    go_loopw [0, 4] (fun n t wr => ∃ (m : Nat) (c : Int) (l : List UInt8), n = .int .i64 c ∧ c = -(m : Int) ∧ t = .string (mkS l) ∧ leftD u = leftD m ++ l ∧ m ≤ u ∧ Ext w wr) (fun n _ _ => (intOf n).natAbs)
    case atStart => exact ⟨u, a, [], rfl, HU.out.2.2, rfl, by simp, Nat.le_refl _, Ext.refl _⟩
    case round =>
      obtain ⟨m, c, l, rfl, hc, rfl, hd, hmu, hx⟩ := hrel
      have hll : l.length ≤ 21 := by
        have h1 := congrArg List.length hd
        rw [List.length_append] at h1
        have h2 := HU.out.1
        rw [List.length_cons] at h2
        have h3 : leftD u = Lib.decDigits u := if_neg (by have := HU.out.2.1; omega)
        rw [h3] at h1
        omega
      by_cases hm : m = 0
      · subst hm
        have hc0 : c = 0 := by omega
        subst hc0
        have hcat : (⟨#[45]⟩ : ByteArray) ++ mkS l = mkS (45 :: l) := by
          rw [show (⟨#[45]⟩ : ByteArray) = mkS [45] from rfl, mkS_append]
          rfl
        have hsz : (mkS l).size = l.length := mkS_size l
        have hs1 : (⟨#[45]⟩ : ByteArray).size = 1 := rfl
        have HD := Lib.hid (show Lib.decDigits u = l by
          have h3 : leftD u = Lib.decDigits u := if_neg (by have := HU.out.2.1; omega)
          rw [← h3, hd]
          rfl)
        clear hc hd
        go_wp2
        go_ret
        exact ⟨by rw [HD.out]; rfl, hx⟩
      · have hstep := leftD_step (Nat.pos_of_ne_zero hm)
        obtain ⟨r, hr⟩ : ∃ r, r = m % 10 := ⟨_, rfl⟩
        obtain ⟨q, hq⟩ : ∃ q, q = m / 10 := ⟨_, rfl⟩
        have hr10 : r < 10 := by omega
        have hmod : c.tmod 10 = -(r : Int) := by rw [hc, Int.neg_tmod, hr]; rfl
        have hdiv : c.tdiv 10 = -(q : Int) := by rw [hc, Int.neg_tdiv, hq]; rfl
        have hc0 : (c == 0) = false := by simp; omega
        have hc1 : (c != 0) = true := by simp; omega
        have hclt : c < 0 := by omega
        have hcge : -9223372036854775808 ≤ c := by omega
        have hqm : q < m := by omega
        have hqge : q ≤ 9223372036854775807 := by omega
        rw [← hr, ← hq] at hstep
        have hcat : mkS [UInt8.ofNat (48 + r)] ++ mkS l = mkS (UInt8.ofNat (48 + r) :: l) := by rw [mkS_append]; rfl
        have hsz : (mkS l).size = l.length := mkS_size l
        have hs1 : (mkS [UInt8.ofNat (48 + r)]).size = 1 := rfl
        have hcv := dec_convert (w := wr.alloc (.cells #[.int .u8 (48 + (r : Int))] 5)) (v := .slice (some ⟨wr.heap.size, 0, none⟩) 1 1) hr10 ⟨_, rfl, by simp⟩
        have HQ := Lib.hid (show leftD u = leftD q ++ (UInt8.ofNat (48 + r) :: l) by rw [hd, hstep]; simp)
        have HM := Lib.hid (And.intro hmu (And.intro hqm hc))
        obtain ⟨bx, hbx⟩ : ∃ bx, bx = mkS [UInt8.ofNat (48 + r)] := ⟨_, rfl⟩
        obtain ⟨cx, hcx⟩ : ∃ cx, cx = mkS (UInt8.ofNat (48 + r) :: l) := ⟨_, rfl⟩
        rw [← hbx] at hcat hs1 hcv
        rw [← hcx] at hcat
        have HX := Lib.hid hcx
        clear hc hd hmu hqm hr hq hstep hm hbx hcx
        by_cases hr0 : r = 0
        · subst hr0
          simp only [Int.natCast_zero, Int.add_zero, Int.neg_zero] at hcv hmod
          go_wp2
          go_roundw
          case rel => exact ⟨q, -(q : Int), UInt8.ofNat (48 + 0) :: l, by go_num, rfl, by rw [HX.out], HQ.out, by have := HM.out; omega, hx.trans (Ext.alloc _ _)⟩
          case measure => have := HM.out; simp [intOf]; omega
        · have hneg2 : -(r : Int) < 0 := by omega
          go_wp2
          go_roundw
          case rel => exact ⟨q, -(q : Int), UInt8.ofNat (48 + r) :: l, by go_num, rfl, by rw [HX.out], HQ.out, by have := HM.out; omega, hx.trans (Ext.alloc _ _)⟩
          case measure => have := HM.out; simp [intOf]; omega
  · obtain ⟨u, rfl⟩ : ∃ u : Nat, z = (u : Int) := ⟨z.toNat, by omega⟩
    have hlen := itoa_len h0 h1
    rw [Lib.itoa_nonneg u] at hlen ⊢
    have hu : 1 ≤ u := by omega
    have HU := Lib.hid (And.intro hlen hu)
    have hb : ((u : Int) == 0) = false := by simpa using hz0
    have hneg2 : decide ((u : Int) < 0) = false := by simp
    clear hlen
    go_enter Tryz.func51, Tryz.ntmps51
    go_wp2
    go_loopw [0, 4] (fun n t wr => ∃ (m : Nat) (l : List UInt8), n = .int .i64 m ∧ t = .string (mkS l) ∧ leftD u = leftD m ++ l ∧ m ≤ u ∧ Ext w wr) (fun n _ _ => (intOf n).natAbs)
    case atStart => exact ⟨u, [], rfl, rfl, by simp, Nat.le_refl _, Ext.refl _⟩
    case round =>
      obtain ⟨m, l, rfl, rfl, hd, hmu, hx⟩ := hrel
      have h3 : leftD u = Lib.decDigits u := if_neg (by have := HU.out.2; omega)
      have hll : l.length ≤ 21 := by
        have h1 := congrArg List.length hd
        rw [List.length_append, h3] at h1
        have h2 := HU.out.1
        omega
      have H3 := Lib.hid h3
      clear h3
      by_cases hm : m = 0
      · subst hm
        have HD := Lib.hid (show Lib.decDigits u = l by rw [← H3.out, hd]; rfl)
        clear hd
        go_wp2
        go_ret
        exact ⟨by rw [HD.out]; rfl, hx⟩
      · have hstep := leftD_step (Nat.pos_of_ne_zero hm)
        obtain ⟨r, hr⟩ : ∃ r, r = m % 10 := ⟨_, rfl⟩
        obtain ⟨q, hq⟩ : ∃ q, q = m / 10 := ⟨_, rfl⟩
        have hr10 : r < 10 := by omega
        have hmod : (m : Int) % 10 = (r : Int) := by omega
        have hdiv : (m : Int) / 10 = (q : Int) := by omega
        have hc0 : ((m : Int) == 0) = false := by simp; omega
        have hc1 : ((m : Int) != 0) = true := by simp; omega
        have hqm : q < m := by omega
        have hqge : q ≤ 9223372036854775807 := by omega
        have hm63 : m ≤ 9223372036854775807 := by omega
        rw [← hr, ← hq] at hstep
        have hcat : mkS [UInt8.ofNat (48 + r)] ++ mkS l = mkS (UInt8.ofNat (48 + r) :: l) := by rw [mkS_append]; rfl
        have hsz : (mkS l).size = l.length := mkS_size l
        have hs1 : (mkS [UInt8.ofNat (48 + r)]).size = 1 := rfl
        have hcv := dec_convert (w := wr.alloc (.cells #[.int .u8 (48 + (r : Int))] 5)) (v := .slice (some ⟨wr.heap.size, 0, none⟩) 1 1) hr10 ⟨_, rfl, by simp⟩
        have HQ := Lib.hid (show leftD u = leftD q ++ (UInt8.ofNat (48 + r) :: l) by rw [hd, hstep]; simp)
        have HM := Lib.hid (And.intro hmu hqm)
        obtain ⟨bx, hbx⟩ : ∃ bx, bx = mkS [UInt8.ofNat (48 + r)] := ⟨_, rfl⟩
        obtain ⟨cx, hcx⟩ : ∃ cx, cx = mkS (UInt8.ofNat (48 + r) :: l) := ⟨_, rfl⟩
        rw [← hbx] at hcat hs1 hcv
        rw [← hcx] at hcat
        have HX := Lib.hid hcx
        clear hd hmu hqm hr hq hstep hm hbx hcx
        go_wp2
        go_roundw
        case rel => exact ⟨q, UInt8.ofNat (48 + r) :: l, by go_num, by rw [HX.out], HQ.out, by have := HM.out; omega, hx.trans (Ext.alloc _ _)⟩
        case measure => have := HM.out; simp [intOf]; omega
end Go.Proofs.YtgaeeibcfoppbaaGreatDoor

/- Rows of words; the library's variable. -/
namespace Go.Proofs.YtgaeeibcfoppbaaGreatDoor
open Go.RowKit Go.Cm

/-- the library's variable holds some number -/
def MaxC (w : World) : Prop := ∃ m, w.cell? ⟨0, 0, none⟩ = some (.int .i64 m)
theorem MaxC.ext {w w' : World} (h : MaxC w) (hx : Ext w w') : MaxC w' := by
  obtain ⟨m, hm⟩ := h
  exact ⟨m, hx.cell_some hm⟩

/-- a row of words -/
def ReadsW (w : World) (v : Value) (F : List (List UInt8)) : Prop := Reads w v (scells F)
theorem ReadsW.ext {w w' : World} {v : Value} {F : List (List UInt8)} (h : ReadsW w v F) (hx : Ext w w') : ReadsW w' v F := Reads.ext h hx
theorem ReadsW.slice {w : World} {v : Value} {F : List (List UInt8)} (h : ReadsW w v F) : ∃ a c, v = .slice a F.length c := by
  obtain ⟨a', cap, hv, _⟩ := h
  exact ⟨a', cap, by simpa [scells] using hv⟩
theorem ReadsW.len {w : World} {a : Option Addr} {n c : Nat} {F : List (List UInt8)} (h : ReadsW w (.slice a n c) F) : n = F.length ∧ n ≤ c ∧ c ≤ 9223372036854775807 := by
  obtain ⟨a', cap, hv, h1, h2, h3⟩ := h
  injection hv with e1 e2 e3
  unfold maxLen at h2
  simp [scells] at h1 e2
  omega
theorem ReadsW.at {w : World} {a : Option Addr} {n c : Nat} {F : List (List UInt8)} (h : ReadsW w (.slice a n c) F) (j : Nat) (hj : j < F.length) :
    ∃ b o, a = some ⟨b, o, none⟩ ∧ w.cell? ⟨b, o + j, none⟩ = some (.string (mkS (F.getD j []))) := by
  obtain ⟨a', cap, hv, h1, h2, h3⟩ := h
  injection hv with e1 e2 e3
  obtain ⟨b, o, ha, hc⟩ := h3 j (by simpa [scells] using hj)
  exact ⟨b, o, e1.trans ha, by rw [hc]; simp [scells, List.getD_eq_getElem?_getD, List.getElem?_eq_getElem hj]⟩
theorem Own.readsW {w : World} {B : Nat} {E : TypeId} {v : Value} {F : List (List UInt8)} (h : Own w B E v (scells F)) : ReadsW w v F := h.reads
theorem scells_length (F : List (List UInt8)) : (scells F).length = F.length := by simp [scells]
theorem scells_at (F : List (List UInt8)) (j : Nat) (h : j < F.length) : (scells F)[j]'(by rw [scells_length]; exact h) = .string (mkS (F.getD j [])) := by
  simp [scells, List.getD_eq_getElem?_getD, List.getElem?_eq_getElem h]
theorem Own.word_at {w : World} {B : Nat} {E : TypeId} {g n cap : Nat} {F : List (List UInt8)} (h : Own w B E (.slice (some ⟨g, 0, none⟩) n cap) (scells F)) (j : Nat) (hj : j < F.length) : w.cell? ⟨g, j, none⟩ = some (.string (mkS (F.getD j []))) := by
  have := h.cell j (by rw [scells_length]; exact hj)
  rw [scells_at _ _ hj] at this
  exact this

theorem mkS_list (l : List UInt8) : (mkS l).toList = l := by
  rw [Lib.toList_data, mkS_data]
theorem mkS_beq (a b : List UInt8) : ((mkS a).toList == (mkS b).toList) = (a == b) := by rw [mkS_list, mkS_list]
theorem mkS_part (u : List UInt8) (a n : Nat) : (mkS u).extract a (a + n) = mkS ((u.drop a).take n) := by
  rw [extract_part, mkS_data]
  rfl
end Go.Proofs.YtgaeeibcfoppbaaGreatDoor

/- Contracts: a text cut at a byte, a numeral read, by the reference. -/
namespace Go.Proofs.YtgaeeibcfoppbaaGreatDoor
open Go.RowKit Go.Cm

set_option maxRecDepth 100000 in
set_option maxHeartbeats 1000000 in
theorem spec_SplitByte_any (s : List UInt8) (c : UInt8) (w : World) (hs : s.length ≤ 1048576) :
    Calls Tryz.prog 43 #[.string (mkS s), .int .u8 c.toNat] w fun e w' => ∃ z, e = .returned z ∧ Own w' w.heap.size 9 z (scells (splitL c s)) ∧ Ext w w' := by
  obtain ⟨n, hn⟩ : ∃ n, n = s.length := ⟨_, rfl⟩
  have hsz : (mkS s).size = n := by rw [mkS_size, hn]
  rw [← hn] at hs
  have hB0 : Own (w.alloc (.cells #[] 9)) w.heap.size 9 (.slice (some ⟨w.heap.size, 0, none⟩) 0 0) (scells (partsTo c s 0).1) := Own.lit w 9 [] (by simp)
  have HA := Lib.hid (And.intro hn hB0)
  clear hn hB0
  go_enter Tryz.func43, Tryz.ntmps43
  go_wp2
  go_loopw [5, 6, 7] (fun v f i wr => ∃ k : Nat, k ≤ n + 1 ∧ i = .int .i64 k ∧ f = .int .i64 (partsTo c s k).2 ∧ Own wr w.heap.size 9 v (scells (partsTo c s k).1) ∧ Ext w wr) (fun _ _ i _ => n + 1 - (intOf i).toNat)
  case atStart => exact ⟨0, by omega, rfl, rfl, HA.out.2, Ext.alloc _ _⟩
  case round =>
    obtain ⟨k, hk, rfl, rfl, hown, hxr⟩ := hrel
    have hle := partsTo_le c s k
    have hall := partsTo_all c s
    have hcut := fun h => partsTo_cut (c := c) (l := s) (i := k) h
    have hskip := fun h1 h2 => partsTo_skip (c := c) (l := s) (i := k) h1 h2
    rw [← HA.out.1] at hall hcut hskip
    have hpart := mkS_part s (partsTo c s k).2 (k - (partsTo c s k).2)
    rw [show (partsTo c s k).2 + (k - (partsTo c s k).2) = k by omega] at hpart
    have hpd : (s.drop (partsTo c s k).2).take (k - (partsTo c s k).2) = (s.take k).drop (partsTo c s k).2 := by rw [List.drop_take]
    rw [hpd] at hpart
    obtain ⟨P, hP⟩ : ∃ P, P = (partsTo c s k).1 := ⟨_, rfl⟩
    obtain ⟨f, hf⟩ : ∃ f, f = (partsTo c s k).2 := ⟨_, rfl⟩
    rw [← hP] at hown hle hcut
    rw [← hf] at hle hcut hpart ⊢
    have hl1 : (scells P).length + 1 ≤ maxLen := by rw [scells_length]; unfold maxLen; omega
    have hl2 : ((scells P).length + 1) * 16 ≤ 140737488355328 := by rw [scells_length]; omega
    obtain ⟨hf1, -⟩ := hle
    have HO := Lib.hid (And.intro hown (And.intro hxr (And.intro hl1 (And.intro hl2 (And.intro hall (And.intro hcut (And.intro hskip (And.intro hP hf))))))))
    clear hown hl1 hl2 hall hcut hskip hP hf
    by_cases hkn : k ≤ n
    · skip
      by_cases hke : k = n
      · have HC := Lib.hid (HO.out.2.2.2.2.2.1 (.inl (by omega)))
        subst hke
        have hkn2 : ((k : Int) == (k : Int)) = true := by simp
        go_wp2_with (at_builtin; refine wpList_append_one rfl (.tmp 26) (.tmp 31) 42 rfl 9 _ _ Tryz.underlying42 infoStr rfl w.heap.size _ _ rfl (HO.out.1.ext (Ext.alloc _ _)) wr.heap.size _ rfl (by simp; rfl) rfl HO.out.2.2.1 HO.out.2.2.2.1 w rfl (HO.out.2.1.trans (Ext.alloc _ _)) ?_; intro v' w4 hown4 hx4 hmv)
        go_roundw
        case rel => exact ⟨k + 1, by omega, by rfl, by rw [HC.out] <;> try go_num, by rw [HC.out]; simpa [scells] using hown4, hx4⟩
        case measure => simp [intOf] <;> omega
      · have hlt : k < n := by omega
        have hget := mkS_get s k (by rw [hsz]; exact hlt)
        have hks : k < (mkS s).size := by rw [hsz]; exact hlt
        by_cases hc : s.getD k 0 = c
        · have HC := Lib.hid (HO.out.2.2.2.2.2.1 (.inr hc))
          have hb : (((mkS s)[k].toNat : Int) == (c.toNat : Int)) = true := by rw [hget, hc]; simp
          have hkn2 : ((k : Int) == (n : Int)) = false := by simp; omega
          clear hget
          go_wp2_with (at_builtin; refine wpList_append_one rfl (.tmp 26) (.tmp 31) 42 rfl 9 _ _ Tryz.underlying42 infoStr rfl w.heap.size _ _ rfl (HO.out.1.ext (Ext.alloc _ _)) wr.heap.size _ rfl (by simp; rfl) rfl HO.out.2.2.1 HO.out.2.2.2.1 w rfl (HO.out.2.1.trans (Ext.alloc _ _)) ?_; intro v' w4 hown4 hx4 hmv)
          go_roundw
          case rel => exact ⟨k + 1, by omega, by go_num, by rw [HC.out] <;> try go_num, by rw [HC.out]; simpa [scells] using hown4, hx4⟩
          case measure => simp [intOf] <;> omega
        · have HC := Lib.hid (HO.out.2.2.2.2.2.2.1 hlt hc)
          have hb : (((mkS s)[k].toNat : Int) == (c.toNat : Int)) = false := by
            rw [hget, beq_eq_false_iff_ne]
            intro e
            exact hc (UInt8.toNat_inj.1 (by omega))
          have hkn2 : ((k : Int) == (n : Int)) = false := by simp; omega
          clear hget
          go_wp2
          go_roundw
          case rel => exact ⟨k + 1, by omega, by go_num, by rw [HC.out, ← HO.out.2.2.2.2.2.2.2.2], by rw [HC.out, ← HO.out.2.2.2.2.2.2.2.1]; exact HO.out.1, HO.out.2.1⟩
          case measure => simp [intOf]; omega
    · have hke : k = n + 1 := by omega
      subst hke
      have HE := Lib.hid (show P = splitL c s by rw [HO.out.2.2.2.2.2.2.2.1]; exact HO.out.2.2.2.2.1)
      go_wp2
      go_ret
      exact ⟨_, rfl, by rw [← HE.out]; exact HO.out.1, HO.out.2.1⟩
end Go.Proofs.YtgaeeibcfoppbaaGreatDoor

/- Contracts: a numeral read, by the reference and by the program. -/
namespace Go.Cm
theorem digC_toNat {d : Nat} (h : d < 10) : (digC d).toNat = 48 + d := by
  have h1 : (digC d).toNat = (48 + d) % 256 := rfl
  omega
theorem mkS_tail2 (l : List UInt8) (a : Nat) : (mkS l).extract a (mkS l).size = mkS (l.drop a) := by
  apply ByteArray.ext
  apply Array.ext'
  rw [Lib.extract_data, mkS_data, mkS_data, mkS_size]
  exact List.take_of_length_le (by simp)
theorem not_dig_at {T : List UInt8} {k : Nat} (hk : k < T.length) (h : (T.getD k 0).toNat < 48 ∨ 57 < (T.getD k 0).toNat) : ∀ d, d < 10 → T ≠ [digC d] := by
  rintro d hd rfl
  have hk0 : k = 0 := by simpa using hk
  subst hk0
  have := digC_toNat hd
  simp only [List.getD_cons_zero] at h
  omega
theorem not_dig_len {T : List UInt8} (h : T.length ≠ 1) : ∀ d, d < 10 → T ≠ [digC d] := by
  rintro d _ rfl
  simp at h
theorem not_dig_minus {r : List UInt8} : ∀ d, d < 10 → (45 : UInt8) :: r ≠ [digC d] := by
  intro d hd h
  injection h with h1 h2
  have := digC_toNat hd
  rw [← h1] at this
  simp at this
  omega
/-- how the number that is read so far goes with a text of one digit -/
def OneD (T : List UInt8) (k m : Nat) : Prop := ∀ d, d < 10 → T = [digC d] → m = if k = 0 then 0 else d
theorem OneD.start (T : List UInt8) : OneD T 0 0 := fun _ _ _ => rfl
theorem OneD.step {T : List UInt8} {k m x : Nat} (h : OneD T k m) (hk : k < T.length) (hx : (T.getD k 0).toNat = 48 + x) : OneD T (k + 1) (10 * m + x) := by
  rintro d hd rfl
  have hk0 : k = 0 := by simpa using hk
  subst hk0
  have h1 := h d hd rfl
  simp only [List.getD_cons_zero] at hx
  have := digC_toNat hd
  simp at h1 ⊢
  omega
end Go.Cm
namespace Go.Proofs.YtgaeeibcfoppbaaGreatDoor
open Go.RowKit Go.Cm

/-- what the reader of numerals gives -/
def NumOut (s : List UInt8) (w : World) (e : Ending) (w' : World) : Prop := ∃ (z : Int) (b : Bool), e = .returned (.tuple #[.int .i64 z, .bool b]) ∧ NumR s z b ∧ (-9223372036854775808 ≤ z ∧ z ≤ 9223372036854775807) ∧ Ext w w'
set_option maxRecDepth 100000 in
set_option maxHeartbeats 2000000 in
theorem spec_l1Read_any (s : List UInt8) (w : World) (hs : s.length ≤ 1048576) :
    Calls Tryz.prog 65 #[.string (mkS s), .int .i64 12] w fun e w' => NumOut s w e w' := by
  obtain ⟨n, hn⟩ : ∃ n, n = s.length := ⟨_, rfl⟩
  have hsz : (mkS s).size = n := by rw [mkS_size, hn]
  rw [← hn] at hs
  by_cases h0 : n = 0
  · have HN := Lib.hid (not_dig_len (T := s) (by omega))
    subst h0
    clear hn
    go_enter Tryz.func65, Tryz.ntmps65
    go_wp2
    refine bodyPost_ret (v := .tuple #[.int .i64 0, .bool false]) (by simp [results, Tryz.results65]) rfl ⟨0, false, rfl, NumR.no HN.out, by omega, Ext.refl _⟩
  have hget0 := mkS_get s 0 (by rw [hsz]; omega)
  have h0s : 0 < (mkS s).size := by rw [hsz]; omega
  have hpos : 0 < n := by omega
  by_cases hmin : s.getD 0 0 = 45
  · have hb : (((mkS s)[0].toNat : Int) == 45) = true := by rw [hget0, hmin]; rfl
    obtain ⟨T, hT⟩ : ∃ T, T = s.drop 1 := ⟨_, rfl⟩
    have hsT : s = 45 :: T := by
      cases s with
      | nil => simp at hn; omega
      | cons x r =>
        simp only [List.getD_cons_zero] at hmin
        rw [hT, hmin]
        rfl
    have hsl := mkS_tail2 s 1
    rw [hsz, ← hT] at hsl
    obtain ⟨L, hL⟩ : ∃ L, L = n - 1 := ⟨_, rfl⟩
    have hlT : T.length = L := by rw [hT, List.length_drop, hL, hn]
    have h1n : (1 : Int) ≤ (n : Int) := by omega
    have hLn : (n : Int) - 1 = (L : Int) := by omega
    have HM := Lib.hid (show ∀ d, d < 10 → s ≠ [digC d] by rw [hsT]; exact not_dig_minus)
    clear hT hn hget0 hmin hsT hL
    have hTl : (mkS T).size = L := (by rw [mkS_size]; exact hlT)
    by_cases hbad : L < 1
    · first
        | (exfalso; omega)
        | (have HN := Lib.hid (show ∀ d, d < 10 → s ≠ [digC d] from HM.out)
           go_enter Tryz.func65, Tryz.ntmps65
           go_wp2
           refine bodyPost_ret (v := .tuple #[.int .i64 0, .bool false]) (by simp [results, Tryz.results65]) rfl ⟨0, false, rfl, NumR.no HN.out, by omega, Ext.refl _⟩)
    by_cases hbad2 : 12 < L
    · have HN := Lib.hid (show ∀ d, d < 10 → s ≠ [digC d] from HM.out)
      go_enter Tryz.func65, Tryz.ntmps65
      go_wp2
      refine bodyPost_ret (v := .tuple #[.int .i64 0, .bool false]) (by simp [results, Tryz.results65]) rfl ⟨0, false, rfl, NumR.no HN.out, by omega, Ext.refl _⟩
    have hL1 : 1 ≤ L := by omega
    have hL12 : L ≤ 12 := by omega
    clear hbad hbad2
    go_enter Tryz.func65, Tryz.ntmps65
    go_wp2
    go_loop [8, 9] (fun v i => ∃ k m : Nat, k ≤ L ∧ i = .int .i64 k ∧ v = .int .i64 m ∧ m < 10 ^ k ∧ OneD T k m) (fun _ i => L - (intOf i).toNat)
    case atStart => exact ⟨0, 0, by omega, rfl, rfl, by simp, OneD.start _⟩
    case round =>
      obtain ⟨k, m, hk, rfl, rfl, hm, ho⟩ := hrel
      have hpow : 10 ^ k ≤ 10 ^ 12 := Nat.pow_le_pow_right (by omega) (by omega)
      have hm12 : m ≤ 1000000000000 := by omega
      by_cases hlt : k < L
      · have hkt : k < (mkS T).size := by rw [hTl]; exact hlt
        have hget := mkS_get T k hkt
        by_cases hd : ((mkS T)[k]).toNat < 48
        · have HN := Lib.hid (show ∀ d, d < 10 → s ≠ [digC d] from (fun (_ : (T.getD k 0).toNat < 48 ∨ 57 < (T.getD k 0).toNat) => HM.out) (.inl (by rw [← hget]; exact hd)))
          clear hget hm hpow ho
          go_wp2
          refine bodyPost_ret (v := .tuple #[.int .i64 0, .bool false]) (by simp [results, Tryz.results65]) rfl ⟨0, false, rfl, NumR.no HN.out, by omega, Ext.refl _⟩
        by_cases hd2 : 57 < ((mkS T)[k]).toNat
        · have HN := Lib.hid (show ∀ d, d < 10 → s ≠ [digC d] from (fun (_ : (T.getD k 0).toNat < 48 ∨ 57 < (T.getD k 0).toNat) => HM.out) (.inr (by rw [← hget]; exact hd2)))
          clear hget hm hpow ho
          go_wp2
          refine bodyPost_ret (v := .tuple #[.int .i64 0, .bool false]) (by simp [results, Tryz.results65]) rfl ⟨0, false, rfl, NumR.no HN.out, by omega, Ext.refl _⟩
        obtain ⟨x, hx⟩ : ∃ x, ((mkS T)[k]).toNat = 48 + x := ⟨((mkS T)[k]).toNat - 48, by omega⟩
        have hx9 : x ≤ 9 := by omega
        have ho2 := ho.step (by rw [← mkS_size T]; exact hkt) (by rw [← hget]; exact hx)
        have hm2 : 10 * m + x < 10 ^ (k + 1) := by rw [Nat.pow_succ]; omega
        have HO := Lib.hid (And.intro ho2 hm2)
        clear ho ho2 hm2 hm hpow hget
        go_wp2
        go_round
        case rel => exact ⟨k + 1, 10 * m + x, by omega, by go_num, by go_num, HO.out.2, HO.out.1⟩
        case measure => simp [intOf]; omega
      · have hkL : k = L := by omega
        subst hkL
        have hf := fun w => spec_FormatInt_any (-(m : Int)) w (by omega) (by omega)
        have hbq := mkS_beq (Lib.itoa (-(m : Int))) s
        obtain ⟨a, ha⟩ : ∃ a : List UInt8, a = Lib.itoa (-(m : Int)) := ⟨_, rfl⟩
        rw [← ha] at hf hbq
        have HF := Lib.hid (And.intro hf (And.intro ha ho))
        clear hf ha ho hm hpow
        by_cases he : a = s
        · have hb1 : ((mkS a).toList == (mkS s).toList) = true := by rw [hbq]; simpa using he
          clear hbq
          go_wp2_with fail
          with_reducible refine (HF.out.1 _).mono ?_
          rintro e w1 ⟨rfl, hx⟩
          go_wp2
          refine bodyPost_ret (v := .tuple #[.int .i64 (-(m : Int)), .bool true]) (by simp [results, Tryz.results65]) rfl ⟨(-(m : Int)), true, rfl, NumR.yes (by rw [← he]; exact HF.out.2.1) (fun d hd e => absurd e (HM.out d hd)), by omega, hx⟩
        · have hb1 : ((mkS a).toList == (mkS s).toList) = false := by rw [hbq]; simpa using he
          clear hbq
          go_wp2_with fail
          with_reducible refine (HF.out.1 _).mono ?_
          rintro e w1 ⟨rfl, hx⟩
          go_wp2
          refine bodyPost_ret (v := .tuple #[.int .i64 0, .bool false]) (by simp [results, Tryz.results65]) rfl ⟨0, false, rfl, NumR.no HM.out, by omega, hx⟩
  · have hb : (((mkS s)[0].toNat : Int) == 45) = false := by
      rw [hget0, beq_eq_false_iff_ne]
      intro e
      exact hmin (UInt8.toNat_inj.1 (by show (s.getD 0 0).toNat = 45; omega))
    clear hget0 hmin
    have hTl : (mkS s).size = n := hsz
    by_cases hbad : n < 1
    · first
        | (exfalso; omega)
        | (have HN := Lib.hid (show ∀ d, d < 10 → s ≠ [digC d] from (not_dig_len (by omega)))
           go_enter Tryz.func65, Tryz.ntmps65
           go_wp2
           refine bodyPost_ret (v := .tuple #[.int .i64 0, .bool false]) (by simp [results, Tryz.results65]) rfl ⟨0, false, rfl, NumR.no HN.out, by omega, Ext.refl _⟩)
    by_cases hbad2 : 12 < n
    · have HN := Lib.hid (show ∀ d, d < 10 → s ≠ [digC d] from (not_dig_len (by omega)))
      go_enter Tryz.func65, Tryz.ntmps65
      go_wp2
      refine bodyPost_ret (v := .tuple #[.int .i64 0, .bool false]) (by simp [results, Tryz.results65]) rfl ⟨0, false, rfl, NumR.no HN.out, by omega, Ext.refl _⟩
    have hL1 : 1 ≤ n := by omega
    have hL12 : n ≤ 12 := by omega
    clear hbad hbad2
    go_enter Tryz.func65, Tryz.ntmps65
    go_wp2
    go_loop [8, 9] (fun v i => ∃ k m : Nat, k ≤ n ∧ i = .int .i64 k ∧ v = .int .i64 m ∧ m < 10 ^ k ∧ OneD s k m) (fun _ i => n - (intOf i).toNat)
    case atStart => exact ⟨0, 0, by omega, rfl, rfl, by simp, OneD.start _⟩
    case round =>
      obtain ⟨k, m, hk, rfl, rfl, hm, ho⟩ := hrel
      have hpow : 10 ^ k ≤ 10 ^ 12 := Nat.pow_le_pow_right (by omega) (by omega)
      have hm12 : m ≤ 1000000000000 := by omega
      by_cases hlt : k < n
      · have hkt : k < (mkS s).size := by rw [hTl]; exact hlt
        have hget := mkS_get s k hkt
        by_cases hd : ((mkS s)[k]).toNat < 48
        · have HN := Lib.hid (show ∀ d, d < 10 → s ≠ [digC d] from (not_dig_at (by rw [← mkS_size]; exact hkt)) (.inl (by rw [← hget]; exact hd)))
          clear hget hm hpow ho
          go_wp2
          refine bodyPost_ret (v := .tuple #[.int .i64 0, .bool false]) (by simp [results, Tryz.results65]) rfl ⟨0, false, rfl, NumR.no HN.out, by omega, Ext.refl _⟩
        by_cases hd2 : 57 < ((mkS s)[k]).toNat
        · have HN := Lib.hid (show ∀ d, d < 10 → s ≠ [digC d] from (not_dig_at (by rw [← mkS_size]; exact hkt)) (.inr (by rw [← hget]; exact hd2)))
          clear hget hm hpow ho
          go_wp2
          refine bodyPost_ret (v := .tuple #[.int .i64 0, .bool false]) (by simp [results, Tryz.results65]) rfl ⟨0, false, rfl, NumR.no HN.out, by omega, Ext.refl _⟩
        obtain ⟨x, hx⟩ : ∃ x, ((mkS s)[k]).toNat = 48 + x := ⟨((mkS s)[k]).toNat - 48, by omega⟩
        have hx9 : x ≤ 9 := by omega
        have ho2 := ho.step (by rw [← mkS_size s]; exact hkt) (by rw [← hget]; exact hx)
        have hm2 : 10 * m + x < 10 ^ (k + 1) := by rw [Nat.pow_succ]; omega
        have HO := Lib.hid (And.intro ho2 hm2)
        clear ho ho2 hm2 hm hpow hget
        go_wp2
        go_round
        case rel => exact ⟨k + 1, 10 * m + x, by omega, by go_num, by go_num, HO.out.2, HO.out.1⟩
        case measure => simp [intOf]; omega
      · have hkL : k = n := by omega
        subst hkL
        have hf := fun w => spec_FormatInt_any (m : Int) w (by omega) (by omega)
        have hbq := mkS_beq (Lib.itoa (m : Int)) s
        obtain ⟨a, ha⟩ : ∃ a : List UInt8, a = Lib.itoa (m : Int) := ⟨_, rfl⟩
        rw [← ha] at hf hbq
        have HF := Lib.hid (And.intro hf (And.intro ha ho))
        clear hf ha ho hm hpow
        by_cases he : a = s
        · have hb1 : ((mkS a).toList == (mkS s).toList) = true := by rw [hbq]; simpa using he
          clear hbq
          go_wp2_with fail
          with_reducible refine (HF.out.1 _).mono ?_
          rintro e w1 ⟨rfl, hx⟩
          go_wp2
          refine bodyPost_ret (v := .tuple #[.int .i64 (m : Int), .bool true]) (by simp [results, Tryz.results65]) rfl ⟨(m : Int), true, rfl, NumR.yes (by rw [← he]; exact HF.out.2.1) (fun d hd e => by have h1 := HF.out.2.2 d hd e; rw [if_neg (by omega)] at h1; rw [h1]), by omega, hx⟩
        · have hb1 : ((mkS a).toList == (mkS s).toList) = false := by rw [hbq]; simpa using he
          clear hbq
          go_wp2_with fail
          with_reducible refine (HF.out.1 _).mono ?_
          rintro e w1 ⟨rfl, hx⟩
          go_wp2
          refine bodyPost_ret (v := .tuple #[.int .i64 0, .bool false]) (by simp [results, Tryz.results65]) rfl ⟨0, false, rfl, NumR.no (fun d hd e => he (by have h1 := HF.out.2.2 d hd e; rw [if_neg (by omega)] at h1; rw [HF.out.2.1, h1, itoa_dig hd]; exact e.symm)), by omega, hx⟩
end Go.Proofs.YtgaeeibcfoppbaaGreatDoor

/- Contracts: a numeral and a code read, by the reference. -/
namespace Go.Proofs.YtgaeeibcfoppbaaGreatDoor
open Go.RowKit Go.Cm

theorem spec_ParseInt_any (s : List UInt8) (w : World) (hs : s.length ≤ 1048576) :
    Calls Tryz.prog 44 #[.string (mkS s)] w fun e w' => NumOut s w e w' := by
  have HC := Lib.hid (spec_l1Read_any s w hs)
  go_enter Tryz.func44, Tryz.ntmps44
  go_wp2_with fail
  with_reducible refine HC.out.mono ?_
  rintro e w1 ⟨z, b, rfl, hn, hb, hx⟩
  have HN := Lib.hid (And.intro hn (And.intro hb hx))
  clear hn hb hx
  go_wp2
  exact bodyPost_ret (v := .tuple #[.int .i64 z, .bool b]) (by simp [results, Tryz.results44]) rfl ⟨z, b, rfl, HN.out.1, HN.out.2.1, HN.out.2.2⟩

/-- what the reader of codes gives -/
def CodeOut (s : List UInt8) (w : World) (e : Ending) (w' : World) : Prop :=
  (∃ k n o, parseC s = some (k, n, o) ∧ e = .returned (.tuple #[.agg #[.int .i64 (k : Nat), .int .i64 (n : Nat), .string o], .bool true]) ∧ o.size ≤ 1048576 ∧ Ext w w') ∨
  (parseC s = none ∧ e = .returned (.tuple #[.agg #[.int .i64 0, .int .i64 0, .string ⟨#[]⟩], .bool false]) ∧ Ext w w')

theorem codeOk_dig {z z' : Int} {o : ByteArray} (h : codeOk z z' o = true) : ∃ k n : Nat, z = k ∧ z' = n ∧ k < 10 ∧ n < 10 := by
  obtain ⟨K, n, rfl, rfl, h1, h2, h3, h4, -⟩ := codeOk_parts h
  exact ⟨K, n, rfl, rfl, by omega, by omega⟩

theorem spec_SplitBlank_any (s : List UInt8) (w : World) (hs : s.length ≤ 1048576) :
    Calls Tryz.prog 43 #[.string (mkS s), .int .u8 32] w fun e w' => ∃ z, e = .returned z ∧ Own w' w.heap.size 9 z (scells (splitL 32 s)) ∧ Ext w w' := spec_SplitByte_any s 32 w hs

set_option maxRecDepth 100000 in
set_option maxHeartbeats 2000000 in
theorem spec_ParseCode_any (s : List UInt8) (w : World) (hs : s.length ≤ 1048576) :
    Calls Tryz.prog 16 #[.string (mkS s)] w fun e w' => CodeOut s w e w' := by
  have hx0 := Ext.alloc w (.cells #[.int .i64 0, .int .i64 0, .string ⟨#[]⟩] 25)
  have br : Blk (w.alloc (.cells #[.int .i64 0, .int .i64 0, .string ⟨#[]⟩] 25)) w.heap.size #[.int .i64 0, .int .i64 0, .string ⟨#[]⟩] := by (repeat (first | (refine Blk.mk' ?_; (simp; done)) | apply Blk.old))
  have HS := Lib.hid (spec_SplitBlank_any s (w.alloc (.cells #[.int .i64 0, .int .i64 0, .string ⟨#[]⟩] 25)) hs)
  have hmem := splitL_mem 32 s
  have hcnt := splitL_len 32 s
  obtain ⟨A, hA⟩ : ∃ A, A = splitL 32 s := ⟨_, rfl⟩
  rw [← hA] at HS hmem hcnt
  skip
  by_cases h3 : A.length ≠ 3
  · have HN := Lib.hid (parseC_few (s := s) (by rw [← hA]; exact h3))
    have hne : ((A.length : Int) != 3) = true := by simp; omega
    have hne2 : ((A.length : Int) == 3) = false := by simp; omega
    clear hA h3 hmem hcnt
    go_enter Tryz.func16, Tryz.ntmps16
    go_wp2_with fail
    with_reducible refine HS.out.mono ?_
    rintro e w1 ⟨z, rfl, hz, hy⟩
    obtain ⟨pz, cz, rfl⟩ := (Own.readsW hz).slice
    have hx := hx0.trans hy
    replace br := br.ext hy
    clear hz hy hx0
    obtain ⟨r0, r1, r2, f0, f1, f2⟩ := br.c3
    clear br
    go_wp2
    refine bodyPost_ret (v := .tuple #[.agg #[.int .i64 0, .int .i64 0, .string ⟨#[]⟩], .bool false]) ?_ rfl (.inr ⟨HN.out, rfl, ((hx.setCell (by simp) _).setCell (by simp) _).setCell (by simp) _⟩)
    simp [results, Tryz.results16, go_sem, r0, r1, r2]
  have h3' : A.length = 3 := by omega
  clear h3 hcnt
  obtain ⟨p, q, o, rfl⟩ : ∃ p q o, A = [p, q, o] := by
    match A, h3' with
    | [p, q, o], _ => exact ⟨p, q, o, rfl⟩
  have hp := hmem p (by simp)
  have hq := hmem q (by simp)
  have ho := hmem o (by simp)
  have hos : (mkS o).size ≤ 1048576 := by rw [mkS_size]; omega
  have hcp := fun w (_ : True) => spec_ParseInt_any p w (by omega) 
  have hcq := fun w (_ : True) => spec_ParseInt_any q w (by omega) 
  have HP := Lib.hid (And.intro hcp (And.intro hcq hA))
  obtain ⟨oo, hoo⟩ : ∃ oo, oo = mkS o := ⟨_, rfl⟩
  rw [← hoo] at hos
  have HOO := Lib.hid hoo
  clear hcp hcq hA hmem hp hq ho h3' hoo
  go_enter Tryz.func16, Tryz.ntmps16
  go_wp2_with fail
  with_reducible refine HS.out.mono ?_
  rintro e w1 ⟨z, rfl, hz, hy⟩
  obtain ⟨pz, cz, rfl⟩ := (Own.readsW hz).slice
  obtain ⟨gb, go, rfl, hc0⟩ := (Own.readsW hz).at 0 (by simp)
  obtain ⟨_, _, e1, hc1⟩ := (Own.readsW hz).at 1 (by simp)
  cases e1
  obtain ⟨_, _, e2, hc2⟩ := (Own.readsW hz).at 2 (by simp)
  cases e2
  simp only [List.getD_cons_zero, List.getD_cons_succ, Nat.add_zero] at hc0 hc1 hc2
  rw [← HOO.out] at hc2
  have hx := hx0.trans hy
  replace br := br.ext hy
  clear hz hy hx0
  have hl3 : ([p, q, o] : List (List UInt8)).length = 3 := rfl
  rw [hl3]
  clear hl3
  go_wp2_with fail
  with_reducible refine (HP.out.1 _ trivial).mono ?_
  rintro e w2 ⟨z1, b1, rfl, hn1, hb1, hy⟩
  replace hx := hx.trans hy
  replace br := br.ext hy
  replace hc1 := hy.cell_some hc1
  replace hc2 := hy.cell_some hc2
  clear hy hc0
  go_wp2_with fail
  with_reducible refine (HP.out.2.1 _ trivial).mono ?_
  rintro e w3 ⟨z2, b2, rfl, hn2, hb2, hy⟩
  replace hx := hx.trans hy
  replace br := br.ext hy
  replace hc2 := hy.cell_some hc2
  clear hy hc1
  have HB := Lib.hid (And.intro hn1 (And.intro hb1 (And.intro hn2 hb2)))
  clear hn1 hn2 hb1 hb2
  have hx9 := Ext.alloc w3 (.cells #[.int .i64 z1, .int .i64 z2, .string oo] 25)
  have bc : Blk (w3.alloc (.cells #[.int .i64 z1, .int .i64 z2, .string oo] 25)) w3.heap.size #[.int .i64 z1, .int .i64 z2, .string oo] := by (repeat (first | (refine Blk.mk' ?_; (simp; done)) | apply Blk.old))
  replace hx := hx.trans hx9
  replace br := br.ext hx9
  obtain ⟨b0, b1', b2', -, -, -⟩ := bc.c3
  clear hx9
  cases b1
  · have HN := Lib.hid (show parseC s = none from parseC_no HP.out.2.2.symm (fun k n hk hn e1 e2 => absurd (HB.out.1.2 k hk e1).1 (by simp)))
    clear bc b0 b1' b2'
    obtain ⟨r0, r1, r2, f0, f1, f2⟩ := br.c3
    clear br
    go_wp2
    refine bodyPost_ret (v := .tuple #[.agg #[.int .i64 0, .int .i64 0, .string ⟨#[]⟩], .bool false]) ?_ rfl (.inr ⟨HN.out, rfl, ((hx.setCell (by simp) _).setCell (by simp) _).setCell (by simp) _⟩)
    simp [results, Tryz.results16, go_sem, r0, r1, r2]
  cases b2
  · have HN := Lib.hid (show parseC s = none from parseC_no HP.out.2.2.symm (fun k n hk hn e1 e2 => absurd (HB.out.2.2.1.2 n hn e2).1 (by simp)))
    clear bc b0 b1' b2'
    obtain ⟨r0, r1, r2, f0, f1, f2⟩ := br.c3
    clear br
    go_wp2
    refine bodyPost_ret (v := .tuple #[.agg #[.int .i64 0, .int .i64 0, .string ⟨#[]⟩], .bool false]) ?_ rfl (.inr ⟨HN.out, rfl, ((hx.setCell (by simp) _).setCell (by simp) _).setCell (by simp) _⟩)
    simp [results, Tryz.results16, go_sem, r0, r1, r2]
  have HCc := Lib.hid (fun w => spec_IsCode_any z1 z2 oo w (by unfold maxLen; omega))
  cases hok : codeOk z1 z2 oo with
  | false =>
    rw [hok] at HCc
    have HN := Lib.hid (show parseC s = none from parseC_no HP.out.2.2.symm (fun k n hk hn e1 e2 => by rw [← HOO.out, ← (HB.out.1.2 k hk e1).2, ← (HB.out.2.2.1.2 n hn e2).2]; exact hok))
    clear hok
    go_wp2_with fail
    with_reducible refine (HCc.out _).mono ?_
    rintro e w4 ⟨rfl, hy⟩
    replace hx := hx.trans hy
    replace br := br.ext hy
    clear bc hc2 b0 b1' b2' hy
    obtain ⟨r0, r1, r2, f0, f1, f2⟩ := br.c3
    clear br
    go_wp2
    refine bodyPost_ret (v := .tuple #[.agg #[.int .i64 0, .int .i64 0, .string ⟨#[]⟩], .bool false]) ?_ rfl (.inr ⟨HN.out, rfl, ((hx.setCell (by simp) _).setCell (by simp) _).setCell (by simp) _⟩)
    simp [results, Tryz.results16, go_sem, r0, r1, r2]
  | true =>
    rw [hok] at HCc
    obtain ⟨k, n, rfl, rfl, hk, hn⟩ := codeOk_dig hok
    have HY := Lib.hid (show parseC s = some (k, n, oo) by
      have h1 := HB.out.1.1 rfl
      have h2 := HB.out.2.2.1.1 rfl
      rw [itoa_dig hk] at h1
      rw [itoa_dig hn] at h2
      rw [HOO.out]
      exact parseC_yes HP.out.2.2.symm hk hn h1 h2 (by rw [← HOO.out]; exact hok))
    clear hok
    go_wp2_with fail
    with_reducible refine (HCc.out _).mono ?_
    rintro e w4 ⟨rfl, hy⟩
    replace hx := hx.trans hy
    replace br := br.ext hy
    replace bc := bc.ext hy
    clear b0 b1' b2' hy hc2
    obtain ⟨b0, b1', b2', -, -, -⟩ := bc.c3
    obtain ⟨r0, r1, r2, f0, f1, f2⟩ := br.c3
    clear br bc
    go_wp2
    refine bodyPost_ret (v := .tuple #[.agg #[.int .i64 k, .int .i64 n, .string oo], .bool true]) ?_ rfl (.inl ⟨k, n, oo, HY.out, rfl, hos, ((hx.setCell (by simp) _).setCell (by simp) _).setCell (by simp) _⟩)
    simp [results, Tryz.results16, go_sem, r0, r1, r2]
end Go.Proofs.YtgaeeibcfoppbaaGreatDoor


/- Several texts of mine in one: PcMath, FmtA, PcA, PcB, PcS. -/
import Derived.Test.YtfiembmfkokllaaGreatPkA
import Derived.Lib.SplitLaws
import Derived.Lib.IndexBytes
import Derived.Lib.AtoiAllCases
import Derived.Lib.ItoaMem
import Derived.Test.YtfiembmfkokllaaGreatPkD
import Derived.Test.YtfiembmfkokllaaGreatShelf
import Derived.Lib.ItoaLen
import Derived.Lib.LaidTab
import Derived.Sort.OwnSorted
import Derived.Test.YtfiembmfkokllaaGreatPkE
import Derived.Lib.SmallJoins
/- Plain laws: a text cut at a byte; single digits; a code's text read. No dump is imported. -/
namespace Go.Cm
open Go

/-- a text cut at each c -/
def splitL (c : UInt8) : List UInt8 → List (List UInt8)
  | [] => [[]]
  | x :: l => if x = c then [] :: splitL c l else match splitL c l with
    | p :: ps => (x :: p) :: ps
    | [] => [[x]]
theorem splitL_cons (c x : UInt8) (l : List UInt8) : splitL c (x :: l) = if x = c then [] :: splitL c l else match splitL c l with
    | p :: ps => (x :: p) :: ps
    | [] => [[x]] := rfl
theorem splitL_ne (c : UInt8) : ∀ l, splitL c l ≠ []
  | [] => by simp [splitL]
  | x :: l => by
    unfold splitL
    split
    · simp
    · split <;> simp
theorem splitL_none {c : UInt8} : ∀ {l : List UInt8}, ¬ c ∈ l → splitL c l = [l]
  | [], _ => rfl
  | x :: l, h => by
    have h1 : ¬ x = c := fun e => h (by rw [e]; exact List.mem_cons_self)
    have h2 := splitL_none (c := c) (l := l) (fun h' => h (List.mem_cons_of_mem _ h'))
    unfold splitL
    rw [if_neg h1, h2]
theorem splitL_at {c : UInt8} : ∀ {a : List UInt8} (r : List UInt8), ¬ c ∈ a → splitL c (a ++ c :: r) = a :: splitL c r
  | [], r, _ => by
    show splitL c (c :: r) = _
    rw [splitL_cons, if_pos rfl]
  | x :: a, r, h => by
    have h1 : ¬ x = c := fun e => h (by rw [e]; exact List.mem_cons_self)
    have h2 := splitL_at (c := c) (a := a) r (fun h' => h (List.mem_cons_of_mem _ h'))
    show splitL c (x :: (a ++ c :: r)) = _
    rw [splitL_cons, if_neg h1, h2]
/-- the pieces that are cut off so far and the place where the next one begins -/
def partsTo (c : UInt8) (l : List UInt8) : Nat → List (List UInt8) × Nat
  | 0 => ([], 0)
  | i + 1 => if i < l.length ∧ ¬ l.getD i 0 = c then partsTo c l i else ((partsTo c l i).1 ++ [(l.take i).drop (partsTo c l i).2], i + 1)
theorem partsTo_skip {c : UInt8} {l : List UInt8} {i : Nat} (h : i < l.length) (hc : ¬ l.getD i 0 = c) : partsTo c l (i + 1) = partsTo c l i := if_pos ⟨h, hc⟩
theorem partsTo_cut {c : UInt8} {l : List UInt8} {i : Nat} (h : ¬ i < l.length ∨ l.getD i 0 = c) : partsTo c l (i + 1) = ((partsTo c l i).1 ++ [(l.take i).drop (partsTo c l i).2], i + 1) := by
  refine if_neg ?_
  rintro ⟨h1, h2⟩
  rcases h with h | h
  · exact h h1
  · exact h2 h
theorem partsTo_le (c : UInt8) (l : List UInt8) : ∀ i, (partsTo c l i).2 ≤ i ∧ (partsTo c l i).1.length ≤ i
  | 0 => ⟨Nat.le_refl _, Nat.le_refl _⟩
  | i + 1 => by
    have := partsTo_le c l i
    unfold partsTo
    split
    · omega
    · simp only [List.length_append, List.length_singleton]
      omega
theorem drop_split {l : List UInt8} {f i : Nat} (hf : f ≤ i) (hi : i ≤ l.length) : l.drop f = (l.take i).drop f ++ l.drop i := by
  rw [← List.drop_append_of_le_length (by rw [List.length_take]; omega), List.take_append_drop]
/-- what is cut so far, and what is still to be cut, make the whole -/
theorem partsTo_inv (c : UInt8) (l : List UInt8) : ∀ i, i ≤ l.length → splitL c l = (partsTo c l i).1 ++ splitL c (l.drop (partsTo c l i).2) ∧ ¬ c ∈ (l.take i).drop (partsTo c l i).2
  | 0, _ => ⟨rfl, by simp [partsTo]⟩
  | i + 1, hi => by
    obtain ⟨h1, h2⟩ := partsTo_inv c l i (by omega)
    have hle := (partsTo_le c l i).1
    have hg : l.getD i 0 = l[i] := by rw [List.getD_eq_getElem?_getD, List.getElem?_eq_getElem (by omega), Option.getD_some]
    by_cases hc : l.getD i 0 = c
    · rw [partsTo_cut (.inr hc)]
      refine ⟨?_, by simp⟩
      have hs : l.drop (partsTo c l i).2 = (l.take i).drop (partsTo c l i).2 ++ c :: l.drop (i + 1) := by
        rw [drop_split hle (by omega), List.drop_eq_getElem_cons (show i < l.length by omega), ← hg, hc]
      rw [h1, hs, splitL_at _ h2, List.append_assoc]
      rfl
    · rw [partsTo_skip (by omega) hc]
      refine ⟨h1, ?_⟩
      rw [List.take_succ_eq_append_getElem (by omega), List.drop_append_of_le_length (by rw [List.length_take]; omega)]
      intro hm
      rcases List.mem_append.1 hm with hm | hm
      · exact h2 hm
      · exact hc (by rw [hg]; exact (List.mem_singleton.1 hm).symm)
theorem partsTo_all (c : UInt8) (l : List UInt8) : (partsTo c l (l.length + 1)).1 = splitL c l := by
  obtain ⟨h1, h2⟩ := partsTo_inv c l l.length (Nat.le_refl _)
  rw [partsTo_cut (.inl (by omega)), h1]
  rw [List.take_of_length_le (Nat.le_refl _)] at h2 ⊢
  rw [splitL_none h2]
theorem splitL_len (c : UInt8) : ∀ l, (splitL c l).length ≤ l.length + 1
  | [] => by simp [splitL]
  | x :: l => by
    have := splitL_len c l
    unfold splitL
    split
    · simp; omega
    · split
      · next h => rw [h] at this; simp at this ⊢; omega
      · simp
theorem splitL_mem (c : UInt8) : ∀ (l : List UInt8), ∀ p ∈ splitL c l, p.length ≤ l.length
  | [], p, h => by simp [splitL] at h; simp [h]
  | x :: l, p, h => by
    have ih := splitL_mem c l
    unfold splitL at h
    split at h
    · rcases List.mem_cons.1 h with rfl | h
      · simp
      · have := ih p h; simp; omega
    · split at h
      · next q ps hq =>
        rcases List.mem_cons.1 h with rfl | h
        · have := ih q (by rw [hq]; exact List.mem_cons_self); simp; omega
        · have := ih p (by rw [hq]; exact List.mem_cons_of_mem _ h); simp; omega
      · have hp := List.mem_singleton.1 h
        rw [hp]; simp

/-! ### single digits -/
def digC (d : Nat) : UInt8 := UInt8.ofNat (48 + d)
theorem itoa_dig {d : Nat} (h : d < 10) : Lib.itoa d = [digC d] := by
  rw [Lib.itoa_nonneg, Lib.decDigits, dif_pos h]
  rfl
/-- what a reader of numerals tells: if it says yes the text is the number's numeral; and of a digit it says yes -/
def NumR (s : List UInt8) (z : Int) (b : Bool) : Prop := (b = true → s = Lib.itoa z) ∧ ∀ d, d < 10 → s = [digC d] → b = true ∧ z = d
theorem NumR.no {s : List UInt8} (h : ∀ d, d < 10 → s ≠ [digC d]) : NumR s 0 false := And.intro (fun e => by simp at e) (fun d hd e => absurd e (h d hd))
theorem NumR.yes {s : List UInt8} {z : Int} (h : s = Lib.itoa z) (hz : ∀ d : Nat, d < 10 → s = [digC d] → z = d) : NumR s z true := And.intro (fun _ => h) (fun d hd e => And.intro rfl (hz d hd e))

end Go.Cm

/- Contracts: the decimal numeral of any number, by the program and by the reference. -/
namespace Go.Proofs.YtfiembmfkokllaaGreat
open Go.RowKit Go.Cm

theorem itoa_len {z : Int} (h0 : -9223372036854775808 ≤ z) (h1 : z ≤ 9223372036854775807) : (Lib.itoa z).length ≤ 21 := Lib.itoa_length_le z h0 h1

/-- what is left of a number's digits -/
def leftD (m : Nat) : List UInt8 := if m = 0 then [] else Lib.decDigits m
theorem leftD_step {m : Nat} (h : 0 < m) : leftD m = leftD (m / 10) ++ [UInt8.ofNat (48 + m % 10)] := by
  unfold leftD
  rw [if_neg (by omega)]
  by_cases h10 : m < 10
  · rw [if_pos (by omega), Lib.decDigits, dif_pos h10, Nat.mod_eq_of_lt h10]
    rfl
  · rw [if_neg (by omega), Lib.decDigits, dif_neg h10]
theorem dec_convert {w : World} {v : Value} {i : Nat} (hi : i < 10) (h : BoxOf (.int .u8 (48 + (i : Int))) v w) : (convert 22 9 v).run Tryz.prog w = .ok (.string (mkS [UInt8.ofNat (48 + i)])) w := by
  obtain ⟨b, rfl, hc⟩ := h
  have hl3 : ((UInt8.ofNat (48 + i)).toNat : Int) = 48 + i := by
    have : (UInt8.ofNat (48 + i)).toNat = (48 + i) % 256 := rfl
    omega
  obtain ⟨c, hcc⟩ : ∃ c, c = UInt8.ofNat (48 + i) := ⟨_, rfl⟩
  rw [← hcc] at hl3 ⊢
  refine run_convert_bytes_back w _ _ 5 ⟨b, 0, none⟩ 1 [c] Tryz.underlying22 Tryz.underlying5 Tryz.underlying9 fun j hj => ?_
  have hj0 : j = 0 := by simp at hj; omega
  subst hj0
  simpa [Addr.add, hl3] using hc

set_option maxRecDepth 100000 in
set_option maxHeartbeats 1000000 in
theorem spec_FormatInt_any (z : Int) (w : World) (h0 : -9223372036854775808 ≤ z) (h1 : z ≤ 9223372036854775807) :
    Calls Tryz.prog 123 #[.int .i64 z] w fun e w' => e = .returned (.string (mkS (Lib.itoa z))) ∧ Ext w w' := by
  by_cases hz0 : z = 0
  · subst hz0
    have hv : mkS (Lib.itoa 0) = ⟨#[48]⟩ := by
      rw [show Lib.itoa 0 = [48] by unfold Lib.itoa; rw [if_neg (by omega)]; rw [show (0 : Int).toNat = 0 from rfl, Lib.decDigits, dif_pos (by omega)]; rfl]
      rfl
    rw [hv]
    go_enter Tryz.func123, Tryz.ntmps123
    go_wp2
    go_ret
    exact ⟨rfl, Ext.refl _⟩
  by_cases hneg : z < 0
  · obtain ⟨u, hu, rfl⟩ : ∃ u : Nat, 1 ≤ u ∧ z = -(u : Int) := ⟨z.natAbs, by omega, by omega⟩
    have hlen := itoa_len h0 h1
    rw [Lib.itoa_neg u hu] at hlen ⊢
    obtain ⟨a, ha⟩ : ∃ a : Int, a = -(u : Int) := ⟨_, rfl⟩
    rw [← ha] at h0 h1 hz0 hneg ⊢
    have HU := Lib.hid (And.intro hlen (And.intro hu ha))
    have hb : (a == 0) = false := by simpa using hz0
    have hu2 : u ≤ 9223372036854775808 := by omega
    clear hlen hu ha
    go_enter Tryz.func123, Tryz.ntmps123
    go_wp2
    go_loopw [0, 4] (fun n t wr => ∃ (m : Nat) (c : Int) (l : List UInt8), n = .int .i64 c ∧ c = -(m : Int) ∧ t = .string (mkS l) ∧ leftD u = leftD m ++ l ∧ m ≤ u ∧ Ext w wr) (fun n _ _ => (intOf n).natAbs)
    case atStart => exact ⟨u, a, [], rfl, HU.out.2.2, rfl, by simp, Nat.le_refl _, Ext.refl _⟩
    case round =>
      obtain ⟨m, c, l, rfl, hc, rfl, hd, hmu, hx⟩ := hrel
      have hll : l.length ≤ 21 := by
        have h1 := congrArg List.length hd
        rw [List.length_append] at h1
        have h2 := HU.out.1
        rw [List.length_cons] at h2
        have h3 : leftD u = Lib.decDigits u := if_neg (by have := HU.out.2.1; omega)
        rw [h3] at h1
        omega
      by_cases hm : m = 0
      · subst hm
        have hc0 : c = 0 := by omega
        subst hc0
        have hcat : (⟨#[45]⟩ : ByteArray) ++ mkS l = mkS (45 :: l) := by
          rw [show (⟨#[45]⟩ : ByteArray) = mkS [45] from rfl, mkS_append]
          rfl
        have hsz : (mkS l).size = l.length := mkS_size l
        have hs1 : (⟨#[45]⟩ : ByteArray).size = 1 := rfl
        have HD := Lib.hid (show Lib.decDigits u = l by
          have h3 : leftD u = Lib.decDigits u := if_neg (by have := HU.out.2.1; omega)
          rw [← h3, hd]
          rfl)
        clear hc hd
        go_wp2
        go_ret
        exact ⟨by rw [HD.out]; rfl, hx⟩
      · have hstep := leftD_step (Nat.pos_of_ne_zero hm)
        obtain ⟨r, hr⟩ : ∃ r, r = m % 10 := ⟨_, rfl⟩
        obtain ⟨q, hq⟩ : ∃ q, q = m / 10 := ⟨_, rfl⟩
        have hr10 : r < 10 := by omega
        have hmod : c.tmod 10 = -(r : Int) := by rw [hc, Int.neg_tmod, hr]; rfl
        have hdiv : c.tdiv 10 = -(q : Int) := by rw [hc, Int.neg_tdiv, hq]; rfl
        have hc0 : (c == 0) = false := by simp; omega
        have hc1 : (c != 0) = true := by simp; omega
        have hclt : c < 0 := by omega
        have hcge : -9223372036854775808 ≤ c := by omega
        have hqm : q < m := by omega
        have hqge : q ≤ 9223372036854775807 := by omega
        rw [← hr, ← hq] at hstep
        have hcat : mkS [UInt8.ofNat (48 + r)] ++ mkS l = mkS (UInt8.ofNat (48 + r) :: l) := by rw [mkS_append]; rfl
        have hsz : (mkS l).size = l.length := mkS_size l
        have hs1 : (mkS [UInt8.ofNat (48 + r)]).size = 1 := rfl
        have hcv := dec_convert (w := wr.alloc (.cells #[.int .u8 (48 + (r : Int))] 5)) (v := .slice (some ⟨wr.heap.size, 0, none⟩) 1 1) hr10 ⟨_, rfl, by simp⟩
        have HQ := Lib.hid (show leftD u = leftD q ++ (UInt8.ofNat (48 + r) :: l) by rw [hd, hstep]; simp)
        have HM := Lib.hid (And.intro hmu (And.intro hqm hc))
        obtain ⟨bx, hbx⟩ : ∃ bx, bx = mkS [UInt8.ofNat (48 + r)] := ⟨_, rfl⟩
        obtain ⟨cx, hcx⟩ : ∃ cx, cx = mkS (UInt8.ofNat (48 + r) :: l) := ⟨_, rfl⟩
        rw [← hbx] at hcat hs1 hcv
        rw [← hcx] at hcat
        have HX := Lib.hid hcx
        clear hc hd hmu hqm hr hq hstep hm hbx hcx
        by_cases hr0 : r = 0
        · subst hr0
          simp only [Int.natCast_zero, Int.add_zero, Int.neg_zero] at hcv hmod
          go_wp2
          go_roundw
          case rel => exact ⟨q, -(q : Int), UInt8.ofNat (48 + 0) :: l, by go_num, rfl, by rw [HX.out], HQ.out, by have := HM.out; omega, hx.trans (Ext.alloc _ _)⟩
          case measure => have := HM.out; simp [intOf]; omega
        · have hneg2 : -(r : Int) < 0 := by omega
          go_wp2
          go_roundw
          case rel => exact ⟨q, -(q : Int), UInt8.ofNat (48 + r) :: l, by go_num, rfl, by rw [HX.out], HQ.out, by have := HM.out; omega, hx.trans (Ext.alloc _ _)⟩
          case measure => have := HM.out; simp [intOf]; omega
  · obtain ⟨u, rfl⟩ : ∃ u : Nat, z = (u : Int) := ⟨z.toNat, by omega⟩
    have hlen := itoa_len h0 h1
    rw [Lib.itoa_nonneg u] at hlen ⊢
    have hu : 1 ≤ u := by omega
    have HU := Lib.hid (And.intro hlen hu)
    have hb : ((u : Int) == 0) = false := by simpa using hz0
    have hneg2 : decide ((u : Int) < 0) = false := by simp
    clear hlen
    go_enter Tryz.func123, Tryz.ntmps123
    go_wp2
    go_loopw [0, 4] (fun n t wr => ∃ (m : Nat) (l : List UInt8), n = .int .i64 m ∧ t = .string (mkS l) ∧ leftD u = leftD m ++ l ∧ m ≤ u ∧ Ext w wr) (fun n _ _ => (intOf n).natAbs)
    case atStart => exact ⟨u, [], rfl, rfl, by simp, Nat.le_refl _, Ext.refl _⟩
    case round =>
      obtain ⟨m, l, rfl, rfl, hd, hmu, hx⟩ := hrel
      have h3 : leftD u = Lib.decDigits u := if_neg (by have := HU.out.2; omega)
      have hll : l.length ≤ 21 := by
        have h1 := congrArg List.length hd
        rw [List.length_append, h3] at h1
        have h2 := HU.out.1
        omega
      have H3 := Lib.hid h3
      clear h3
      by_cases hm : m = 0
      · subst hm
        have HD := Lib.hid (show Lib.decDigits u = l by rw [← H3.out, hd]; rfl)
        clear hd
        go_wp2
        go_ret
        exact ⟨by rw [HD.out]; rfl, hx⟩
      · have hstep := leftD_step (Nat.pos_of_ne_zero hm)
        obtain ⟨r, hr⟩ : ∃ r, r = m % 10 := ⟨_, rfl⟩
        obtain ⟨q, hq⟩ : ∃ q, q = m / 10 := ⟨_, rfl⟩
        have hr10 : r < 10 := by omega
        have hmod : (m : Int) % 10 = (r : Int) := by omega
        have hdiv : (m : Int) / 10 = (q : Int) := by omega
        have hc0 : ((m : Int) == 0) = false := by simp; omega
        have hc1 : ((m : Int) != 0) = true := by simp; omega
        have hqm : q < m := by omega
        have hqge : q ≤ 9223372036854775807 := by omega
        have hm63 : m ≤ 9223372036854775807 := by omega
        rw [← hr, ← hq] at hstep
        have hcat : mkS [UInt8.ofNat (48 + r)] ++ mkS l = mkS (UInt8.ofNat (48 + r) :: l) := by rw [mkS_append]; rfl
        have hsz : (mkS l).size = l.length := mkS_size l
        have hs1 : (mkS [UInt8.ofNat (48 + r)]).size = 1 := rfl
        have hcv := dec_convert (w := wr.alloc (.cells #[.int .u8 (48 + (r : Int))] 5)) (v := .slice (some ⟨wr.heap.size, 0, none⟩) 1 1) hr10 ⟨_, rfl, by simp⟩
        have HQ := Lib.hid (show leftD u = leftD q ++ (UInt8.ofNat (48 + r) :: l) by rw [hd, hstep]; simp)
        have HM := Lib.hid (And.intro hmu hqm)
        obtain ⟨bx, hbx⟩ : ∃ bx, bx = mkS [UInt8.ofNat (48 + r)] := ⟨_, rfl⟩
        obtain ⟨cx, hcx⟩ : ∃ cx, cx = mkS (UInt8.ofNat (48 + r) :: l) := ⟨_, rfl⟩
        rw [← hbx] at hcat hs1 hcv
        rw [← hcx] at hcat
        have HX := Lib.hid hcx
        clear hd hmu hqm hr hq hstep hm hbx hcx
        go_wp2
        go_roundw
        case rel => exact ⟨q, UInt8.ofNat (48 + r) :: l, by go_num, by rw [HX.out], HQ.out, by have := HM.out; omega, hx.trans (Ext.alloc _ _)⟩
        case measure => have := HM.out; simp [intOf]; omega
end Go.Proofs.YtfiembmfkokllaaGreat

/- Contracts: a text cut at a byte, a numeral read, by the reference. -/
namespace Go.Proofs.YtfiembmfkokllaaGreat
open Go.RowKit Go.Cm

set_option maxRecDepth 100000 in
set_option maxHeartbeats 1000000 in
theorem spec_SplitByte_any (s : List UInt8) (c : UInt8) (w : World) (hs : s.length ≤ 1048576) :
    Calls Tryz.prog 107 #[.string (mkS s), .int .u8 c.toNat] w fun e w' => ∃ z, e = .returned z ∧ Own w' w.heap.size 9 z (scells (splitL c s)) ∧ Ext w w' := by
  obtain ⟨n, hn⟩ : ∃ n, n = s.length := ⟨_, rfl⟩
  have hsz : (mkS s).size = n := by rw [mkS_size, hn]
  rw [← hn] at hs
  have hB0 : Own (w.alloc (.cells #[] 9)) w.heap.size 9 (.slice (some ⟨w.heap.size, 0, none⟩) 0 0) (scells (partsTo c s 0).1) := Own.lit w 9 [] (by simp)
  have HA := Lib.hid (And.intro hn hB0)
  clear hn hB0
  go_enter Tryz.func107, Tryz.ntmps107
  go_wp2
  go_loopw [5, 6, 7] (fun v f i wr => ∃ k : Nat, k ≤ n + 1 ∧ i = .int .i64 k ∧ f = .int .i64 (partsTo c s k).2 ∧ Own wr w.heap.size 9 v (scells (partsTo c s k).1) ∧ Ext w wr) (fun _ _ i _ => n + 1 - (intOf i).toNat)
  case atStart => exact ⟨0, by omega, rfl, rfl, HA.out.2, Ext.alloc _ _⟩
  case round =>
    obtain ⟨k, hk, rfl, rfl, hown, hxr⟩ := hrel
    have hle := partsTo_le c s k
    have hall := partsTo_all c s
    have hcut := fun h => partsTo_cut (c := c) (l := s) (i := k) h
    have hskip := fun h1 h2 => partsTo_skip (c := c) (l := s) (i := k) h1 h2
    rw [← HA.out.1] at hall hcut hskip
    have hpart := mkS_part s (partsTo c s k).2 (k - (partsTo c s k).2)
    rw [show (partsTo c s k).2 + (k - (partsTo c s k).2) = k by omega] at hpart
    have hpd : (s.drop (partsTo c s k).2).take (k - (partsTo c s k).2) = (s.take k).drop (partsTo c s k).2 := by rw [List.drop_take]
    rw [hpd] at hpart
    obtain ⟨P, hP⟩ : ∃ P, P = (partsTo c s k).1 := ⟨_, rfl⟩
    obtain ⟨f, hf⟩ : ∃ f, f = (partsTo c s k).2 := ⟨_, rfl⟩
    rw [← hP] at hown hle hcut
    rw [← hf] at hle hcut hpart ⊢
    have hl1 : (scells P).length + 1 ≤ maxLen := by rw [scells_length]; unfold maxLen; omega
    have hl2 : ((scells P).length + 1) * 16 ≤ 140737488355328 := by rw [scells_length]; omega
    obtain ⟨hf1, -⟩ := hle
    have HO := Lib.hid (And.intro hown (And.intro hxr (And.intro hl1 (And.intro hl2 (And.intro hall (And.intro hcut (And.intro hskip (And.intro hP hf))))))))
    clear hown hl1 hl2 hall hcut hskip hP hf
    by_cases hkn : k ≤ n
    · skip
      by_cases hke : k = n
      · have HC := Lib.hid (HO.out.2.2.2.2.2.1 (.inl (by omega)))
        subst hke
        have hkn2 : ((k : Int) == (k : Int)) = true := by simp
        go_wp2_with (at_builtin; refine wpList_append_one rfl (.tmp 26) (.tmp 31) 24 rfl 9 _ _ Tryz.underlying24 infoStr rfl w.heap.size _ _ rfl (HO.out.1.ext (Ext.alloc _ _)) wr.heap.size _ rfl (by simp; rfl) rfl HO.out.2.2.1 HO.out.2.2.2.1 w rfl (HO.out.2.1.trans (Ext.alloc _ _)) ?_; intro v' w4 hown4 hx4 hmv)
        go_roundw
        case rel => exact ⟨k + 1, by omega, by rfl, by rw [HC.out] <;> try go_num, by rw [HC.out]; simpa [scells] using hown4, hx4⟩
        case measure => simp [intOf] <;> omega
      · have hlt : k < n := by omega
        have hget := mkS_get s k (by rw [hsz]; exact hlt)
        have hks : k < (mkS s).size := by rw [hsz]; exact hlt
        by_cases hc : s.getD k 0 = c
        · have HC := Lib.hid (HO.out.2.2.2.2.2.1 (.inr hc))
          have hb : (((mkS s)[k].toNat : Int) == (c.toNat : Int)) = true := by rw [hget, hc]; simp
          have hkn2 : ((k : Int) == (n : Int)) = false := by simp; omega
          clear hget
          go_wp2_with (at_builtin; refine wpList_append_one rfl (.tmp 26) (.tmp 31) 24 rfl 9 _ _ Tryz.underlying24 infoStr rfl w.heap.size _ _ rfl (HO.out.1.ext (Ext.alloc _ _)) wr.heap.size _ rfl (by simp; rfl) rfl HO.out.2.2.1 HO.out.2.2.2.1 w rfl (HO.out.2.1.trans (Ext.alloc _ _)) ?_; intro v' w4 hown4 hx4 hmv)
          go_roundw
          case rel => exact ⟨k + 1, by omega, by go_num, by rw [HC.out] <;> try go_num, by rw [HC.out]; simpa [scells] using hown4, hx4⟩
          case measure => simp [intOf] <;> omega
        · have HC := Lib.hid (HO.out.2.2.2.2.2.2.1 hlt hc)
          have hb : (((mkS s)[k].toNat : Int) == (c.toNat : Int)) = false := by
            rw [hget, beq_eq_false_iff_ne]
            intro e
            exact hc (UInt8.toNat_inj.1 (by omega))
          have hkn2 : ((k : Int) == (n : Int)) = false := by simp; omega
          clear hget
          go_wp2
          go_roundw
          case rel => exact ⟨k + 1, by omega, by go_num, by rw [HC.out, ← HO.out.2.2.2.2.2.2.2.2], by rw [HC.out, ← HO.out.2.2.2.2.2.2.2.1]; exact HO.out.1, HO.out.2.1⟩
          case measure => simp [intOf]; omega
    · have hke : k = n + 1 := by omega
      subst hke
      have HE := Lib.hid (show P = splitL c s by rw [HO.out.2.2.2.2.2.2.2.1]; exact HO.out.2.2.2.2.1)
      go_wp2
      go_ret
      exact ⟨_, rfl, by rw [← HE.out]; exact HO.out.1, HO.out.2.1⟩
end Go.Proofs.YtfiembmfkokllaaGreat

/- Contracts: a numeral read, by the reference and by the program. -/
namespace Go.Cm
theorem digC_toNat {d : Nat} (h : d < 10) : (digC d).toNat = 48 + d := by
  have h1 : (digC d).toNat = (48 + d) % 256 := rfl
  omega
theorem mkS_tail2 (l : List UInt8) (a : Nat) : (mkS l).extract a (mkS l).size = mkS (l.drop a) := by
  apply ByteArray.ext
  apply Array.ext'
  rw [Lib.extract_data, mkS_data, mkS_data, mkS_size]
  exact List.take_of_length_le (by simp)
theorem not_dig_at {T : List UInt8} {k : Nat} (hk : k < T.length) (h : (T.getD k 0).toNat < 48 ∨ 57 < (T.getD k 0).toNat) : ∀ d, d < 10 → T ≠ [digC d] := by
  rintro d hd rfl
  have hk0 : k = 0 := by simpa using hk
  subst hk0
  have := digC_toNat hd
  simp only [List.getD_cons_zero] at h
  omega
theorem not_dig_len {T : List UInt8} (h : T.length ≠ 1) : ∀ d, d < 10 → T ≠ [digC d] := by
  rintro d _ rfl
  simp at h
theorem not_dig_minus {r : List UInt8} : ∀ d, d < 10 → (45 : UInt8) :: r ≠ [digC d] := by
  intro d hd h
  injection h with h1 h2
  have := digC_toNat hd
  rw [← h1] at this
  simp at this
  omega
/-- how the number that is read so far goes with a text of one digit -/
def OneD (T : List UInt8) (k m : Nat) : Prop := ∀ d, d < 10 → T = [digC d] → m = if k = 0 then 0 else d
theorem OneD.start (T : List UInt8) : OneD T 0 0 := fun _ _ _ => rfl
theorem OneD.step {T : List UInt8} {k m x : Nat} (h : OneD T k m) (hk : k < T.length) (hx : (T.getD k 0).toNat = 48 + x) : OneD T (k + 1) (10 * m + x) := by
  rintro d hd rfl
  have hk0 : k = 0 := by simpa using hk
  subst hk0
  have h1 := h d hd rfl
  simp only [List.getD_cons_zero] at hx
  have := digC_toNat hd
  simp at h1 ⊢
  omega
end Go.Cm
namespace Go.Proofs.YtfiembmfkokllaaGreat
open Go.RowKit Go.Cm

/-- what the reader of numerals gives -/
def NumOut (s : List UInt8) (w : World) (e : Ending) (w' : World) : Prop := ∃ (z : Int) (b : Bool), e = .returned (.tuple #[.int .i64 z, .bool b]) ∧ NumR s z b ∧ (-9223372036854775808 ≤ z ∧ z ≤ 9223372036854775807) ∧ Ext w w'
set_option maxRecDepth 100000 in
set_option maxHeartbeats 2000000 in
theorem spec_l1Read_any (s : List UInt8) (w : World) (hs : s.length ≤ 1048576) :
    Calls Tryz.prog 117 #[.string (mkS s), .int .i64 12] w fun e w' => NumOut s w e w' := by
  obtain ⟨n, hn⟩ : ∃ n, n = s.length := ⟨_, rfl⟩
  have hsz : (mkS s).size = n := by rw [mkS_size, hn]
  rw [← hn] at hs
  by_cases h0 : n = 0
  · have HN := Lib.hid (not_dig_len (T := s) (by omega))
    subst h0
    clear hn
    go_enter Tryz.func117, Tryz.ntmps117
    go_wp2
    refine bodyPost_ret (v := .tuple #[.int .i64 0, .bool false]) (by simp [results, Tryz.results117]) rfl ⟨0, false, rfl, NumR.no HN.out, by omega, Ext.refl _⟩
  have hget0 := mkS_get s 0 (by rw [hsz]; omega)
  have h0s : 0 < (mkS s).size := by rw [hsz]; omega
  have hpos : 0 < n := by omega
  by_cases hmin : s.getD 0 0 = 45
  · have hb : (((mkS s)[0].toNat : Int) == 45) = true := by rw [hget0, hmin]; rfl
    obtain ⟨T, hT⟩ : ∃ T, T = s.drop 1 := ⟨_, rfl⟩
    have hsT : s = 45 :: T := by
      cases s with
      | nil => simp at hn; omega
      | cons x r =>
        simp only [List.getD_cons_zero] at hmin
        rw [hT, hmin]
        rfl
    have hsl := mkS_tail2 s 1
    rw [hsz, ← hT] at hsl
    obtain ⟨L, hL⟩ : ∃ L, L = n - 1 := ⟨_, rfl⟩
    have hlT : T.length = L := by rw [hT, List.length_drop, hL, hn]
    have h1n : (1 : Int) ≤ (n : Int) := by omega
    have hLn : (n : Int) - 1 = (L : Int) := by omega
    have HM := Lib.hid (show ∀ d, d < 10 → s ≠ [digC d] by rw [hsT]; exact not_dig_minus)
    clear hT hn hget0 hmin hsT hL
    have hTl : (mkS T).size = L := (by rw [mkS_size]; exact hlT)
    by_cases hbad : L < 1
    · first
        | (exfalso; omega)
        | (have HN := Lib.hid (show ∀ d, d < 10 → s ≠ [digC d] from HM.out)
           go_enter Tryz.func117, Tryz.ntmps117
           go_wp2
           refine bodyPost_ret (v := .tuple #[.int .i64 0, .bool false]) (by simp [results, Tryz.results117]) rfl ⟨0, false, rfl, NumR.no HN.out, by omega, Ext.refl _⟩)
    by_cases hbad2 : 12 < L
    · have HN := Lib.hid (show ∀ d, d < 10 → s ≠ [digC d] from HM.out)
      go_enter Tryz.func117, Tryz.ntmps117
      go_wp2
      refine bodyPost_ret (v := .tuple #[.int .i64 0, .bool false]) (by simp [results, Tryz.results117]) rfl ⟨0, false, rfl, NumR.no HN.out, by omega, Ext.refl _⟩
    have hL1 : 1 ≤ L := by omega
    have hL12 : L ≤ 12 := by omega
    clear hbad hbad2
    go_enter Tryz.func117, Tryz.ntmps117
    go_wp2
    go_loop [8, 9] (fun v i => ∃ k m : Nat, k ≤ L ∧ i = .int .i64 k ∧ v = .int .i64 m ∧ m < 10 ^ k ∧ OneD T k m) (fun _ i => L - (intOf i).toNat)
    case atStart => exact ⟨0, 0, by omega, rfl, rfl, by simp, OneD.start _⟩
    case round =>
      obtain ⟨k, m, hk, rfl, rfl, hm, ho⟩ := hrel
      have hpow : 10 ^ k ≤ 10 ^ 12 := Nat.pow_le_pow_right (by omega) (by omega)
      have hm12 : m ≤ 1000000000000 := by omega
      by_cases hlt : k < L
      · have hkt : k < (mkS T).size := by rw [hTl]; exact hlt
        have hget := mkS_get T k hkt
        by_cases hd : ((mkS T)[k]).toNat < 48
        · have HN := Lib.hid (show ∀ d, d < 10 → s ≠ [digC d] from (fun (_ : (T.getD k 0).toNat < 48 ∨ 57 < (T.getD k 0).toNat) => HM.out) (.inl (by rw [← hget]; exact hd)))
          clear hget hm hpow ho
          go_wp2
          refine bodyPost_ret (v := .tuple #[.int .i64 0, .bool false]) (by simp [results, Tryz.results117]) rfl ⟨0, false, rfl, NumR.no HN.out, by omega, Ext.refl _⟩
        by_cases hd2 : 57 < ((mkS T)[k]).toNat
        · have HN := Lib.hid (show ∀ d, d < 10 → s ≠ [digC d] from (fun (_ : (T.getD k 0).toNat < 48 ∨ 57 < (T.getD k 0).toNat) => HM.out) (.inr (by rw [← hget]; exact hd2)))
          clear hget hm hpow ho
          go_wp2
          refine bodyPost_ret (v := .tuple #[.int .i64 0, .bool false]) (by simp [results, Tryz.results117]) rfl ⟨0, false, rfl, NumR.no HN.out, by omega, Ext.refl _⟩
        obtain ⟨x, hx⟩ : ∃ x, ((mkS T)[k]).toNat = 48 + x := ⟨((mkS T)[k]).toNat - 48, by omega⟩
        have hx9 : x ≤ 9 := by omega
        have ho2 := ho.step (by rw [← mkS_size T]; exact hkt) (by rw [← hget]; exact hx)
        have hm2 : 10 * m + x < 10 ^ (k + 1) := by rw [Nat.pow_succ]; omega
        have HO := Lib.hid (And.intro ho2 hm2)
        clear ho ho2 hm2 hm hpow hget
        go_wp2
        go_round
        case rel => exact ⟨k + 1, 10 * m + x, by omega, by go_num, by go_num, HO.out.2, HO.out.1⟩
        case measure => simp [intOf]; omega
      · have hkL : k = L := by omega
        subst hkL
        have hf := fun w => spec_FormatInt_any (-(m : Int)) w (by omega) (by omega)
        have hbq := mkS_beq (Lib.itoa (-(m : Int))) s
        obtain ⟨a, ha⟩ : ∃ a : List UInt8, a = Lib.itoa (-(m : Int)) := ⟨_, rfl⟩
        rw [← ha] at hf hbq
        have HF := Lib.hid (And.intro hf (And.intro ha ho))
        clear hf ha ho hm hpow
        by_cases he : a = s
        · have hb1 : ((mkS a).toList == (mkS s).toList) = true := by rw [hbq]; simpa using he
          clear hbq
          go_wp2_with fail
          with_reducible refine (HF.out.1 _).mono ?_
          rintro e w1 ⟨rfl, hx⟩
          go_wp2
          refine bodyPost_ret (v := .tuple #[.int .i64 (-(m : Int)), .bool true]) (by simp [results, Tryz.results117]) rfl ⟨(-(m : Int)), true, rfl, NumR.yes (by rw [← he]; exact HF.out.2.1) (fun d hd e => absurd e (HM.out d hd)), by omega, hx⟩
        · have hb1 : ((mkS a).toList == (mkS s).toList) = false := by rw [hbq]; simpa using he
          clear hbq
          go_wp2_with fail
          with_reducible refine (HF.out.1 _).mono ?_
          rintro e w1 ⟨rfl, hx⟩
          go_wp2
          refine bodyPost_ret (v := .tuple #[.int .i64 0, .bool false]) (by simp [results, Tryz.results117]) rfl ⟨0, false, rfl, NumR.no HM.out, by omega, hx⟩
  · have hb : (((mkS s)[0].toNat : Int) == 45) = false := by
      rw [hget0, beq_eq_false_iff_ne]
      intro e
      exact hmin (UInt8.toNat_inj.1 (by show (s.getD 0 0).toNat = 45; omega))
    clear hget0 hmin
    have hTl : (mkS s).size = n := hsz
    by_cases hbad : n < 1
    · first
        | (exfalso; omega)
        | (have HN := Lib.hid (show ∀ d, d < 10 → s ≠ [digC d] from (not_dig_len (by omega)))
           go_enter Tryz.func117, Tryz.ntmps117
           go_wp2
           refine bodyPost_ret (v := .tuple #[.int .i64 0, .bool false]) (by simp [results, Tryz.results117]) rfl ⟨0, false, rfl, NumR.no HN.out, by omega, Ext.refl _⟩)
    by_cases hbad2 : 12 < n
    · have HN := Lib.hid (show ∀ d, d < 10 → s ≠ [digC d] from (not_dig_len (by omega)))
      go_enter Tryz.func117, Tryz.ntmps117
      go_wp2
      refine bodyPost_ret (v := .tuple #[.int .i64 0, .bool false]) (by simp [results, Tryz.results117]) rfl ⟨0, false, rfl, NumR.no HN.out, by omega, Ext.refl _⟩
    have hL1 : 1 ≤ n := by omega
    have hL12 : n ≤ 12 := by omega
    clear hbad hbad2
    go_enter Tryz.func117, Tryz.ntmps117
    go_wp2
    go_loop [8, 9] (fun v i => ∃ k m : Nat, k ≤ n ∧ i = .int .i64 k ∧ v = .int .i64 m ∧ m < 10 ^ k ∧ OneD s k m) (fun _ i => n - (intOf i).toNat)
    case atStart => exact ⟨0, 0, by omega, rfl, rfl, by simp, OneD.start _⟩
    case round =>
      obtain ⟨k, m, hk, rfl, rfl, hm, ho⟩ := hrel
      have hpow : 10 ^ k ≤ 10 ^ 12 := Nat.pow_le_pow_right (by omega) (by omega)
      have hm12 : m ≤ 1000000000000 := by omega
      by_cases hlt : k < n
      · have hkt : k < (mkS s).size := by rw [hTl]; exact hlt
        have hget := mkS_get s k hkt
        by_cases hd : ((mkS s)[k]).toNat < 48
        · have HN := Lib.hid (show ∀ d, d < 10 → s ≠ [digC d] from (not_dig_at (by rw [← mkS_size]; exact hkt)) (.inl (by rw [← hget]; exact hd)))
          clear hget hm hpow ho
          go_wp2
          refine bodyPost_ret (v := .tuple #[.int .i64 0, .bool false]) (by simp [results, Tryz.results117]) rfl ⟨0, false, rfl, NumR.no HN.out, by omega, Ext.refl _⟩
        by_cases hd2 : 57 < ((mkS s)[k]).toNat
        · have HN := Lib.hid (show ∀ d, d < 10 → s ≠ [digC d] from (not_dig_at (by rw [← mkS_size]; exact hkt)) (.inr (by rw [← hget]; exact hd2)))
          clear hget hm hpow ho
          go_wp2
          refine bodyPost_ret (v := .tuple #[.int .i64 0, .bool false]) (by simp [results, Tryz.results117]) rfl ⟨0, false, rfl, NumR.no HN.out, by omega, Ext.refl _⟩
        obtain ⟨x, hx⟩ : ∃ x, ((mkS s)[k]).toNat = 48 + x := ⟨((mkS s)[k]).toNat - 48, by omega⟩
        have hx9 : x ≤ 9 := by omega
        have ho2 := ho.step (by rw [← mkS_size s]; exact hkt) (by rw [← hget]; exact hx)
        have hm2 : 10 * m + x < 10 ^ (k + 1) := by rw [Nat.pow_succ]; omega
        have HO := Lib.hid (And.intro ho2 hm2)
        clear ho ho2 hm2 hm hpow hget
        go_wp2
        go_round
        case rel => exact ⟨k + 1, 10 * m + x, by omega, by go_num, by go_num, HO.out.2, HO.out.1⟩
        case measure => simp [intOf]; omega
      · have hkL : k = n := by omega
        subst hkL
        have hf := fun w => spec_FormatInt_any (m : Int) w (by omega) (by omega)
        have hbq := mkS_beq (Lib.itoa (m : Int)) s
        obtain ⟨a, ha⟩ : ∃ a : List UInt8, a = Lib.itoa (m : Int) := ⟨_, rfl⟩
        rw [← ha] at hf hbq
        have HF := Lib.hid (And.intro hf (And.intro ha ho))
        clear hf ha ho hm hpow
        by_cases he : a = s
        · have hb1 : ((mkS a).toList == (mkS s).toList) = true := by rw [hbq]; simpa using he
          clear hbq
          go_wp2_with fail
          with_reducible refine (HF.out.1 _).mono ?_
          rintro e w1 ⟨rfl, hx⟩
          go_wp2
          refine bodyPost_ret (v := .tuple #[.int .i64 (m : Int), .bool true]) (by simp [results, Tryz.results117]) rfl ⟨(m : Int), true, rfl, NumR.yes (by rw [← he]; exact HF.out.2.1) (fun d hd e => by have h1 := HF.out.2.2 d hd e; rw [if_neg (by omega)] at h1; rw [h1]), by omega, hx⟩
        · have hb1 : ((mkS a).toList == (mkS s).toList) = false := by rw [hbq]; simpa using he
          clear hbq
          go_wp2_with fail
          with_reducible refine (HF.out.1 _).mono ?_
          rintro e w1 ⟨rfl, hx⟩
          go_wp2
          refine bodyPost_ret (v := .tuple #[.int .i64 0, .bool false]) (by simp [results, Tryz.results117]) rfl ⟨0, false, rfl, NumR.no (fun d hd e => he (by have h1 := HF.out.2.2 d hd e; rw [if_neg (by omega)] at h1; rw [HF.out.2.1, h1, itoa_dig hd]; exact e.symm)), by omega, hx⟩
end Go.Proofs.YtfiembmfkokllaaGreat

/- Contracts: a numeral and a code read, by the reference. -/
namespace Go.Proofs.YtfiembmfkokllaaGreat
open Go.RowKit Go.Cm

theorem spec_ParseInt_any (s : List UInt8) (w : World) (hs : s.length ≤ 1048576) :
    Calls Tryz.prog 108 #[.string (mkS s)] w fun e w' => NumOut s w e w' := by
  have HC := Lib.hid (spec_l1Read_any s w hs)
  go_enter Tryz.func108, Tryz.ntmps108
  go_wp2_with fail
  with_reducible refine HC.out.mono ?_
  rintro e w1 ⟨z, b, rfl, hn, hb, hx⟩
  have HN := Lib.hid (And.intro hn (And.intro hb hx))
  clear hn hb hx
  go_wp2
  exact bodyPost_ret (v := .tuple #[.int .i64 z, .bool b]) (by simp [results, Tryz.results108]) rfl ⟨z, b, rfl, HN.out.1, HN.out.2.1, HN.out.2.2⟩

end Go.Proofs.YtfiembmfkokllaaGreat


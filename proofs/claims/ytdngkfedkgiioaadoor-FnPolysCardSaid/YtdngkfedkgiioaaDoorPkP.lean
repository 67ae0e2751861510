/- Several texts of mine in one: FmtA, ApplyA, ApplyB, ApplyC, ShR, PcA, PcB, PcS, PmA. -/
import Derived.Test.YtdngkfedkgiioaaDoorPkC
import Derived.Test.YtdngkfedkgiioaaDoorPkA
import Derived.Test.YtdngkfedkgiioaaDoorPkB
import Derived.Test.YtdngkfedkgiioaaDoorShelf
import Derived.Lib.ItoaLen
import Derived.Lib.ItoaMem
import Derived.Lib.LaidTab
import Derived.Sort.OwnSorted
import Derived.Lib.SmallJoins
/- Contracts: the decimal numeral of any number, by the program and by the reference. -/
namespace Go.Proofs.YtdngkfedkgiioaaDoor
open Go.RowKit Go.Cm

/-- the library's table of powers of ten is as the program's text lays it -/
def TabC (w : World) : Prop := Lib.TabIs Tryd.prog w "internal/strconv.uint64pow10" .u64 Lib.pow10Tab
theorem tab_named : Tryd.prog.globalNamed "internal/strconv.uint64pow10" = some 1 := by kernel_rfl
theorem TabC.ext {w w' : World} (h : TabC w) (hx : Ext w w') : TabC w' := by
  unfold TabC Lib.TabIs World.var? at h ⊢
  rw [tab_named] at h ⊢
  simp only [Option.bind_some] at h ⊢
  have hlt : 1 < w.heap.size := by
    rcases Nat.lt_or_ge 1 w.heap.size with h' | h'
    · exact h'
    · rw [Array.getElem?_eq_none h'] at h; cases h
  rw [Below.block hx _ hlt]
  exact h
theorem ext_grow (w : World) (k : Nat) (os : Array Obj) : Ext w (Sort.grow (w.drewN k) os) := by
  refine ⟨rfl, rfl, rfl, by simp, fun b hb => ?_⟩
  rw [Sort.heap_grow_old _ _ (by simpa using hb)]
  rfl
theorem itoa_len {z : Int} (h0 : -9223372036854775808 ≤ z) (h1 : z ≤ 9223372036854775807) : (Lib.itoa z).length ≤ 21 := Lib.itoa_length_le z h0 h1

theorem impl_FormatInt_any (z : Int) (w : World) (h0 : -9223372036854775808 ≤ z) (h1 : z ≤ 9223372036854775807) (ht : TabC w) :
    Calls Tryd.prog 74 #[.int .i64 z] w fun e w' => e = .returned (.string (mkS (Lib.itoa z))) ∧ Ext w w' := by
  have HC := Lib.hid (Tryd.strconv_Itoa z h0 h1 w ht)
  go_enter Tryd.func74, Tryd.ntmps74
  go_wp2_with fail
  with_reducible refine HC.out.mono ?_
  rintro e w1 ⟨rfl, k, os, rfl⟩
  go_wp2
  go_ret
  exact ⟨rfl, ext_grow _ _ _⟩

/-- what is left of a number's digits -/
def leftD (m : Nat) : List UInt8 := if m = 0 then [] else Lib.decDigits m
theorem leftD_step {m : Nat} (h : 0 < m) : leftD m = leftD (m / 10) ++ [UInt8.ofNat (48 + m % 10)] := by
  unfold leftD
  rw [if_neg (by omega)]
  by_cases h10 : m < 10
  · rw [if_pos (by omega), Lib.decDigits, dif_pos h10, Nat.mod_eq_of_lt h10]
    rfl
  · rw [if_neg (by omega), Lib.decDigits, dif_neg h10]
theorem dec_convert {w : World} {v : Value} {i : Nat} (hi : i < 10) (h : BoxOf (.int .u8 (48 + (i : Int))) v w) : (convert 22 9 v).run Tryd.prog w = .ok (.string (mkS [UInt8.ofNat (48 + i)])) w := by
  obtain ⟨b, rfl, hc⟩ := h
  have hl3 : ((UInt8.ofNat (48 + i)).toNat : Int) = 48 + i := by
    have : (UInt8.ofNat (48 + i)).toNat = (48 + i) % 256 := rfl
    omega
  obtain ⟨c, hcc⟩ : ∃ c, c = UInt8.ofNat (48 + i) := ⟨_, rfl⟩
  rw [← hcc] at hl3 ⊢
  refine run_convert_bytes_back w _ _ 5 ⟨b, 0, none⟩ 1 [c] Tryd.underlying22 Tryd.underlying5 Tryd.underlying9 fun j hj => ?_
  have hj0 : j = 0 := by simp at hj; omega
  subst hj0
  simpa [Addr.add, hl3] using hc

set_option maxRecDepth 100000 in
set_option maxHeartbeats 1000000 in
theorem spec_FormatInt_any (z : Int) (w : World) (h0 : -9223372036854775808 ≤ z) (h1 : z ≤ 9223372036854775807) :
    Calls Tryd.prog 75 #[.int .i64 z] w fun e w' => e = .returned (.string (mkS (Lib.itoa z))) ∧ Ext w w' := by
  by_cases hz0 : z = 0
  · subst hz0
    have hv : mkS (Lib.itoa 0) = ⟨#[48]⟩ := by
      rw [show Lib.itoa 0 = [48] by unfold Lib.itoa; rw [if_neg (by omega)]; rw [show (0 : Int).toNat = 0 from rfl, Lib.decDigits, dif_pos (by omega)]; rfl]
      rfl
    rw [hv]
    go_enter Tryd.func75, Tryd.ntmps75
    go_wp2
    go_ret
    exact ⟨rfl, Ext.refl _⟩
  by_cases hneg : z < 0
  · obtain ⟨u, hu, rfl⟩ : ∃ u : Nat, 1 ≤ u ∧ z = -(u : Int) := ⟨z.natAbs, by omega, by omega⟩
    have hlen := itoa_len h0 h1
    rw [Lib.itoa_neg u hu] at hlen ⊢
    obtain ⟨a, ha⟩ : ∃ a : Int, a = -(u : Int) := ⟨_, rfl⟩
    rw [← ha] at h0 h1 hz0 hneg ⊢
    have HU := Lib.hid (And.intro hlen (And.intro hu ha))
    have hb : (a == 0) = false := by simpa using hz0
    have hu2 : u ≤ 9223372036854775808 := by omega
    clear hlen hu ha
    go_enter Tryd.func75, Tryd.ntmps75
    go_wp2
    go_loopw [0, 4] (fun n t wr => ∃ (m : Nat) (c : Int) (l : List UInt8), n = .int .i64 c ∧ c = -(m : Int) ∧ t = .string (mkS l) ∧ leftD u = leftD m ++ l ∧ m ≤ u ∧ Ext w wr) (fun n _ _ => (intOf n).natAbs)
    case atStart => exact ⟨u, a, [], rfl, HU.out.2.2, rfl, by simp, Nat.le_refl _, Ext.refl _⟩
    case round =>
      obtain ⟨m, c, l, rfl, hc, rfl, hd, hmu, hx⟩ := hrel
      have hll : l.length ≤ 21 := by
        have h1 := congrArg List.length hd
        rw [List.length_append] at h1
        have h2 := HU.out.1
        rw [List.length_cons] at h2
        have h3 : leftD u = Lib.decDigits u := if_neg (by have := HU.out.2.1; omega)
        rw [h3] at h1
        omega
      by_cases hm : m = 0
      · subst hm
        have hc0 : c = 0 := by omega
        subst hc0
        have hcat : (⟨#[45]⟩ : ByteArray) ++ mkS l = mkS (45 :: l) := by
          rw [show (⟨#[45]⟩ : ByteArray) = mkS [45] from rfl, mkS_append]
          rfl
        have hsz : (mkS l).size = l.length := mkS_size l
        have hs1 : (⟨#[45]⟩ : ByteArray).size = 1 := rfl
        have HD := Lib.hid (show Lib.decDigits u = l by
          have h3 : leftD u = Lib.decDigits u := if_neg (by have := HU.out.2.1; omega)
          rw [← h3, hd]
          rfl)
        clear hc hd
        go_wp2
        go_ret
        exact ⟨by rw [HD.out]; rfl, hx⟩
      · have hstep := leftD_step (Nat.pos_of_ne_zero hm)
        obtain ⟨r, hr⟩ : ∃ r, r = m % 10 := ⟨_, rfl⟩
        obtain ⟨q, hq⟩ : ∃ q, q = m / 10 := ⟨_, rfl⟩
        have hr10 : r < 10 := by omega
        have hmod : c.tmod 10 = -(r : Int) := by rw [hc, Int.neg_tmod, hr]; rfl
        have hdiv : c.tdiv 10 = -(q : Int) := by rw [hc, Int.neg_tdiv, hq]; rfl
        have hc0 : (c == 0) = false := by simp; omega
        have hc1 : (c != 0) = true := by simp; omega
        have hclt : c < 0 := by omega
        have hcge : -9223372036854775808 ≤ c := by omega
        have hqm : q < m := by omega
        have hqge : q ≤ 9223372036854775807 := by omega
        rw [← hr, ← hq] at hstep
        have hcat : mkS [UInt8.ofNat (48 + r)] ++ mkS l = mkS (UInt8.ofNat (48 + r) :: l) := by rw [mkS_append]; rfl
        have hsz : (mkS l).size = l.length := mkS_size l
        have hs1 : (mkS [UInt8.ofNat (48 + r)]).size = 1 := rfl
        have hcv := dec_convert (w := wr.alloc (.cells #[.int .u8 (48 + (r : Int))] 5)) (v := .slice (some ⟨wr.heap.size, 0, none⟩) 1 1) hr10 ⟨_, rfl, by simp⟩
        have HQ := Lib.hid (show leftD u = leftD q ++ (UInt8.ofNat (48 + r) :: l) by rw [hd, hstep]; simp)
        have HM := Lib.hid (And.intro hmu (And.intro hqm hc))
        obtain ⟨bx, hbx⟩ : ∃ bx, bx = mkS [UInt8.ofNat (48 + r)] := ⟨_, rfl⟩
        obtain ⟨cx, hcx⟩ : ∃ cx, cx = mkS (UInt8.ofNat (48 + r) :: l) := ⟨_, rfl⟩
        rw [← hbx] at hcat hs1 hcv
        rw [← hcx] at hcat
        have HX := Lib.hid hcx
        clear hc hd hmu hqm hr hq hstep hm hbx hcx
        by_cases hr0 : r = 0
        · subst hr0
          simp only [Int.natCast_zero, Int.add_zero, Int.neg_zero] at hcv hmod
          go_wp2
          go_roundw
          case rel => exact ⟨q, -(q : Int), UInt8.ofNat (48 + 0) :: l, by go_num, rfl, by rw [HX.out], HQ.out, by have := HM.out; omega, hx.trans (Ext.alloc _ _)⟩
          case measure => have := HM.out; simp [intOf]; omega
        · have hneg2 : -(r : Int) < 0 := by omega
          go_wp2
          go_roundw
          case rel => exact ⟨q, -(q : Int), UInt8.ofNat (48 + r) :: l, by go_num, rfl, by rw [HX.out], HQ.out, by have := HM.out; omega, hx.trans (Ext.alloc _ _)⟩
          case measure => have := HM.out; simp [intOf]; omega
  · obtain ⟨u, rfl⟩ : ∃ u : Nat, z = (u : Int) := ⟨z.toNat, by omega⟩
    have hlen := itoa_len h0 h1
    rw [Lib.itoa_nonneg u] at hlen ⊢
    have hu : 1 ≤ u := by omega
    have HU := Lib.hid (And.intro hlen hu)
    have hb : ((u : Int) == 0) = false := by simpa using hz0
    have hneg2 : decide ((u : Int) < 0) = false := by simp
    clear hlen
    go_enter Tryd.func75, Tryd.ntmps75
    go_wp2
    go_loopw [0, 4] (fun n t wr => ∃ (m : Nat) (l : List UInt8), n = .int .i64 m ∧ t = .string (mkS l) ∧ leftD u = leftD m ++ l ∧ m ≤ u ∧ Ext w wr) (fun n _ _ => (intOf n).natAbs)
    case atStart => exact ⟨u, [], rfl, rfl, by simp, Nat.le_refl _, Ext.refl _⟩
    case round =>
      obtain ⟨m, l, rfl, rfl, hd, hmu, hx⟩ := hrel
      have h3 : leftD u = Lib.decDigits u := if_neg (by have := HU.out.2; omega)
      have hll : l.length ≤ 21 := by
        have h1 := congrArg List.length hd
        rw [List.length_append, h3] at h1
        have h2 := HU.out.1
        omega
      have H3 := Lib.hid h3
      clear h3
      by_cases hm : m = 0
      · subst hm
        have HD := Lib.hid (show Lib.decDigits u = l by rw [← H3.out, hd]; rfl)
        clear hd
        go_wp2
        go_ret
        exact ⟨by rw [HD.out]; rfl, hx⟩
      · have hstep := leftD_step (Nat.pos_of_ne_zero hm)
        obtain ⟨r, hr⟩ : ∃ r, r = m % 10 := ⟨_, rfl⟩
        obtain ⟨q, hq⟩ : ∃ q, q = m / 10 := ⟨_, rfl⟩
        have hr10 : r < 10 := by omega
        have hmod : (m : Int) % 10 = (r : Int) := by omega
        have hdiv : (m : Int) / 10 = (q : Int) := by omega
        have hc0 : ((m : Int) == 0) = false := by simp; omega
        have hc1 : ((m : Int) != 0) = true := by simp; omega
        have hqm : q < m := by omega
        have hqge : q ≤ 9223372036854775807 := by omega
        have hm63 : m ≤ 9223372036854775807 := by omega
        rw [← hr, ← hq] at hstep
        have hcat : mkS [UInt8.ofNat (48 + r)] ++ mkS l = mkS (UInt8.ofNat (48 + r) :: l) := by rw [mkS_append]; rfl
        have hsz : (mkS l).size = l.length := mkS_size l
        have hs1 : (mkS [UInt8.ofNat (48 + r)]).size = 1 := rfl
        have hcv := dec_convert (w := wr.alloc (.cells #[.int .u8 (48 + (r : Int))] 5)) (v := .slice (some ⟨wr.heap.size, 0, none⟩) 1 1) hr10 ⟨_, rfl, by simp⟩
        have HQ := Lib.hid (show leftD u = leftD q ++ (UInt8.ofNat (48 + r) :: l) by rw [hd, hstep]; simp)
        have HM := Lib.hid (And.intro hmu hqm)
        obtain ⟨bx, hbx⟩ : ∃ bx, bx = mkS [UInt8.ofNat (48 + r)] := ⟨_, rfl⟩
        obtain ⟨cx, hcx⟩ : ∃ cx, cx = mkS (UInt8.ofNat (48 + r) :: l) := ⟨_, rfl⟩
        rw [← hbx] at hcat hs1 hcv
        rw [← hcx] at hcat
        have HX := Lib.hid hcx
        clear hd hmu hqm hr hq hstep hm hbx hcx
        go_wp2
        go_roundw
        case rel => exact ⟨q, UInt8.ofNat (48 + r) :: l, by go_num, by rw [HX.out], HQ.out, by have := HM.out; omega, hx.trans (Ext.alloc _ _)⟩
        case measure => have := HM.out; simp [intOf]; omega
end Go.Proofs.YtdngkfedkgiioaaDoor

/- Contracts: the index of a word, the letter that a code gives, a code on a word: the program's. -/
namespace Go.Proofs.YtdngkfedkgiioaaDoor
open Go.RowKit Go.Cm

end Go.Proofs.YtdngkfedkgiioaaDoor

/- Contracts: the letter that a code gives, a code on a word: the program's. -/
namespace Go.Proofs.YtdngkfedkgiioaaDoor
open Go.RowKit Go.Cm

/-- a code that is right -/
structure CodeFit (K n : Nat) (o : ByteArray) : Prop where
  k2 : 2 ≤ K
  k3 : K ≤ 3
  n1 : 1 ≤ n
  n4 : n ≤ 4
  le : K ^ n ≤ 27
  size : o.size = K ^ n
  lets : areLet K o.data.toList = true

theorem codeFit_of {L W : Int} {o : ByteArray} (h : codeOk L W o = true) : ∃ K n : Nat, L = K ∧ W = n ∧ CodeFit K n o := by
  obtain ⟨K, n, h1, h2, a, b, c, d, e, f, g⟩ := codeOk_parts h
  exact ⟨K, n, h1, h2, ⟨a, b, c, d, e, f, g⟩⟩

theorem givesL_eq {K n : Nat} {o : ByteArray} (hf : CodeFit K n o) {u : List UInt8} (hl : u.length = n) (ha : areLet K u = true) : ∃ h : idxL K u < o.size, givesL K o u = o[idxL K u] := by
  have h1 := idxL_lt K u ha
  rw [hl, ← hf.size] at h1
  refine ⟨h1, ?_⟩
  unfold givesL
  rw [List.getD_eq_getElem?_getD, List.getElem?_eq_getElem (by simpa using h1)]
  rfl

end Go.Proofs.YtdngkfedkgiioaaDoor

/- Contracts: what a word is, the letter that a code gives, a code on a word: the reference's. -/
namespace Go.Proofs.YtdngkfedkgiioaaDoor
open Go.RowKit Go.Cm

theorem wordOk_at {k : Int} {s : ByteArray} {i : Nat} (hi : i < s.size) (h1 : ¬ (97 ≤ (s[i].toNat : Int) ∧ (s[i].toNat : Int) - 97 < k)) : wordOk k s = false := by
  unfold wordOk
  rw [areLet_bad hi h1]
  simp

end Go.Proofs.YtdngkfedkgiioaaDoor

/- Rows of words; the library's variable. -/
namespace Go.Proofs.YtdngkfedkgiioaaDoor
open Go.RowKit Go.Cm

/-- the library's variable holds some number -/
def MaxC (w : World) : Prop := ∃ m, w.cell? ⟨0, 0, none⟩ = some (.int .i64 m)
theorem MaxC.ext {w w' : World} (h : MaxC w) (hx : Ext w w') : MaxC w' := by
  obtain ⟨m, hm⟩ := h
  exact ⟨m, hx.cell_some hm⟩

/-- a row of words -/
def ReadsW (w : World) (v : Value) (F : List (List UInt8)) : Prop := Reads w v (scells F)
theorem ReadsW.ext {w w' : World} {v : Value} {F : List (List UInt8)} (h : ReadsW w v F) (hx : Ext w w') : ReadsW w' v F := Reads.ext h hx
theorem ReadsW.slice {w : World} {v : Value} {F : List (List UInt8)} (h : ReadsW w v F) : ∃ a c, v = .slice a F.length c := by
  obtain ⟨a', cap, hv, _⟩ := h
  exact ⟨a', cap, by simpa [scells] using hv⟩
theorem ReadsW.len {w : World} {a : Option Addr} {n c : Nat} {F : List (List UInt8)} (h : ReadsW w (.slice a n c) F) : n = F.length ∧ n ≤ c ∧ c ≤ 9223372036854775807 := by
  obtain ⟨a', cap, hv, h1, h2, h3⟩ := h
  injection hv with e1 e2 e3
  unfold maxLen at h2
  simp [scells] at h1 e2
  omega
theorem ReadsW.at {w : World} {a : Option Addr} {n c : Nat} {F : List (List UInt8)} (h : ReadsW w (.slice a n c) F) (j : Nat) (hj : j < F.length) :
    ∃ b o, a = some ⟨b, o, none⟩ ∧ w.cell? ⟨b, o + j, none⟩ = some (.string (mkS (F.getD j []))) := by
  obtain ⟨a', cap, hv, h1, h2, h3⟩ := h
  injection hv with e1 e2 e3
  obtain ⟨b, o, ha, hc⟩ := h3 j (by simpa [scells] using hj)
  exact ⟨b, o, e1.trans ha, by rw [hc]; simp [scells, List.getD_eq_getElem?_getD, List.getElem?_eq_getElem hj]⟩
theorem Own.readsW {w : World} {B : Nat} {E : TypeId} {v : Value} {F : List (List UInt8)} (h : Own w B E v (scells F)) : ReadsW w v F := h.reads
theorem scells_length (F : List (List UInt8)) : (scells F).length = F.length := by simp [scells]
theorem scells_at (F : List (List UInt8)) (j : Nat) (h : j < F.length) : (scells F)[j]'(by rw [scells_length]; exact h) = .string (mkS (F.getD j [])) := by
  simp [scells, List.getD_eq_getElem?_getD, List.getElem?_eq_getElem h]
theorem Own.word_at {w : World} {B : Nat} {E : TypeId} {g n cap : Nat} {F : List (List UInt8)} (h : Own w B E (.slice (some ⟨g, 0, none⟩) n cap) (scells F)) (j : Nat) (hj : j < F.length) : w.cell? ⟨g, j, none⟩ = some (.string (mkS (F.getD j []))) := by
  have := h.cell j (by rw [scells_length]; exact hj)
  rw [scells_at _ _ hj] at this
  exact this

theorem mkS_list (l : List UInt8) : (mkS l).toList = l := by
  rw [Lib.toList_data, mkS_data]
theorem mkS_beq (a b : List UInt8) : ((mkS a).toList == (mkS b).toList) = (a == b) := by rw [mkS_list, mkS_list]
theorem mkS_part (u : List UInt8) (a n : Nat) : (mkS u).extract a (a + n) = mkS ((u.drop a).take n) := by
  rw [extract_part, mkS_data]
  rfl
end Go.Proofs.YtdngkfedkgiioaaDoor

/- Contracts: a text cut at a byte, a numeral read, by the reference. -/
namespace Go.Proofs.YtdngkfedkgiioaaDoor
open Go.RowKit Go.Cm

set_option maxRecDepth 100000 in
set_option maxHeartbeats 1000000 in
theorem spec_SplitByte_any (s : List UInt8) (c : UInt8) (w : World) (hs : s.length ≤ 1048576) :
    Calls Tryd.prog 104 #[.string (mkS s), .int .u8 c.toNat] w fun e w' => ∃ z, e = .returned z ∧ Own w' w.heap.size 9 z (scells (splitL c s)) ∧ Ext w w' := by
  obtain ⟨n, hn⟩ : ∃ n, n = s.length := ⟨_, rfl⟩
  have hsz : (mkS s).size = n := by rw [mkS_size, hn]
  rw [← hn] at hs
  have hB0 : Own (w.alloc (.cells #[] 9)) w.heap.size 9 (.slice (some ⟨w.heap.size, 0, none⟩) 0 0) (scells (partsTo c s 0).1) := Own.lit w 9 [] (by simp)
  have HA := Lib.hid (And.intro hn hB0)
  clear hn hB0
  go_enter Tryd.func104, Tryd.ntmps104
  go_wp2
  go_loopw [5, 6, 7] (fun v f i wr => ∃ k : Nat, k ≤ n + 1 ∧ i = .int .i64 k ∧ f = .int .i64 (partsTo c s k).2 ∧ Own wr w.heap.size 9 v (scells (partsTo c s k).1) ∧ Ext w wr) (fun _ _ i _ => n + 1 - (intOf i).toNat)
  case atStart => exact ⟨0, by omega, rfl, rfl, HA.out.2, Ext.alloc _ _⟩
  case round =>
    obtain ⟨k, hk, rfl, rfl, hown, hxr⟩ := hrel
    have hle := partsTo_le c s k
    have hall := partsTo_all c s
    have hcut := fun h => partsTo_cut (c := c) (l := s) (i := k) h
    have hskip := fun h1 h2 => partsTo_skip (c := c) (l := s) (i := k) h1 h2
    rw [← HA.out.1] at hall hcut hskip
    have hpart := mkS_part s (partsTo c s k).2 (k - (partsTo c s k).2)
    rw [show (partsTo c s k).2 + (k - (partsTo c s k).2) = k by omega] at hpart
    have hpd : (s.drop (partsTo c s k).2).take (k - (partsTo c s k).2) = (s.take k).drop (partsTo c s k).2 := by rw [List.drop_take]
    rw [hpd] at hpart
    obtain ⟨P, hP⟩ : ∃ P, P = (partsTo c s k).1 := ⟨_, rfl⟩
    obtain ⟨f, hf⟩ : ∃ f, f = (partsTo c s k).2 := ⟨_, rfl⟩
    rw [← hP] at hown hle hcut
    rw [← hf] at hle hcut hpart ⊢
    have hl1 : (scells P).length + 1 ≤ maxLen := by rw [scells_length]; unfold maxLen; omega
    have hl2 : ((scells P).length + 1) * 16 ≤ 140737488355328 := by rw [scells_length]; omega
    obtain ⟨hf1, -⟩ := hle
    have HO := Lib.hid (And.intro hown (And.intro hxr (And.intro hl1 (And.intro hl2 (And.intro hall (And.intro hcut (And.intro hskip (And.intro hP hf))))))))
    clear hown hl1 hl2 hall hcut hskip hP hf
    by_cases hkn : k ≤ n
    · skip
      by_cases hke : k = n
      · have HC := Lib.hid (HO.out.2.2.2.2.2.1 (.inl (by omega)))
        subst hke
        have hkn2 : ((k : Int) == (k : Int)) = true := by simp
        go_wp2_with (at_builtin; refine wpList_append_one rfl (.tmp 26) (.tmp 31) 82 rfl 9 _ _ Tryd.underlying82 infoStr rfl w.heap.size _ _ rfl (HO.out.1.ext (Ext.alloc _ _)) wr.heap.size _ rfl (by simp; rfl) rfl HO.out.2.2.1 HO.out.2.2.2.1 w rfl (HO.out.2.1.trans (Ext.alloc _ _)) ?_; intro v' w4 hown4 hx4 hmv)
        go_roundw
        case rel => exact ⟨k + 1, by omega, by rfl, by rw [HC.out] <;> try go_num, by rw [HC.out]; simpa [scells] using hown4, hx4⟩
        case measure => simp [intOf] <;> omega
      · have hlt : k < n := by omega
        have hget := mkS_get s k (by rw [hsz]; exact hlt)
        have hks : k < (mkS s).size := by rw [hsz]; exact hlt
        by_cases hc : s.getD k 0 = c
        · have HC := Lib.hid (HO.out.2.2.2.2.2.1 (.inr hc))
          have hb : (((mkS s)[k].toNat : Int) == (c.toNat : Int)) = true := by rw [hget, hc]; simp
          have hkn2 : ((k : Int) == (n : Int)) = false := by simp; omega
          clear hget
          go_wp2_with (at_builtin; refine wpList_append_one rfl (.tmp 26) (.tmp 31) 82 rfl 9 _ _ Tryd.underlying82 infoStr rfl w.heap.size _ _ rfl (HO.out.1.ext (Ext.alloc _ _)) wr.heap.size _ rfl (by simp; rfl) rfl HO.out.2.2.1 HO.out.2.2.2.1 w rfl (HO.out.2.1.trans (Ext.alloc _ _)) ?_; intro v' w4 hown4 hx4 hmv)
          go_roundw
          case rel => exact ⟨k + 1, by omega, by go_num, by rw [HC.out] <;> try go_num, by rw [HC.out]; simpa [scells] using hown4, hx4⟩
          case measure => simp [intOf] <;> omega
        · have HC := Lib.hid (HO.out.2.2.2.2.2.2.1 hlt hc)
          have hb : (((mkS s)[k].toNat : Int) == (c.toNat : Int)) = false := by
            rw [hget, beq_eq_false_iff_ne]
            intro e
            exact hc (UInt8.toNat_inj.1 (by omega))
          have hkn2 : ((k : Int) == (n : Int)) = false := by simp; omega
          clear hget
          go_wp2
          go_roundw
          case rel => exact ⟨k + 1, by omega, by go_num, by rw [HC.out, ← HO.out.2.2.2.2.2.2.2.2], by rw [HC.out, ← HO.out.2.2.2.2.2.2.2.1]; exact HO.out.1, HO.out.2.1⟩
          case measure => simp [intOf]; omega
    · have hke : k = n + 1 := by omega
      subst hke
      have HE := Lib.hid (show P = splitL c s by rw [HO.out.2.2.2.2.2.2.2.1]; exact HO.out.2.2.2.2.1)
      go_wp2
      go_ret
      exact ⟨_, rfl, by rw [← HE.out]; exact HO.out.1, HO.out.2.1⟩
end Go.Proofs.YtdngkfedkgiioaaDoor

/- Contracts: a numeral read, by the reference and by the program. -/
namespace Go.Cm
theorem digC_toNat {d : Nat} (h : d < 10) : (digC d).toNat = 48 + d := by
  have h1 : (digC d).toNat = (48 + d) % 256 := rfl
  omega
theorem mkS_tail2 (l : List UInt8) (a : Nat) : (mkS l).extract a (mkS l).size = mkS (l.drop a) := by
  apply ByteArray.ext
  apply Array.ext'
  rw [Lib.extract_data, mkS_data, mkS_data, mkS_size]
  exact List.take_of_length_le (by simp)
theorem not_dig_at {T : List UInt8} {k : Nat} (hk : k < T.length) (h : (T.getD k 0).toNat < 48 ∨ 57 < (T.getD k 0).toNat) : ∀ d, d < 10 → T ≠ [digC d] := by
  rintro d hd rfl
  have hk0 : k = 0 := by simpa using hk
  subst hk0
  have := digC_toNat hd
  simp only [List.getD_cons_zero] at h
  omega
theorem not_dig_len {T : List UInt8} (h : T.length ≠ 1) : ∀ d, d < 10 → T ≠ [digC d] := by
  rintro d _ rfl
  simp at h
theorem not_dig_minus {r : List UInt8} : ∀ d, d < 10 → (45 : UInt8) :: r ≠ [digC d] := by
  intro d hd h
  injection h with h1 h2
  have := digC_toNat hd
  rw [← h1] at this
  simp at this
  omega
/-- how the number that is read so far goes with a text of one digit -/
def OneD (T : List UInt8) (k m : Nat) : Prop := ∀ d, d < 10 → T = [digC d] → m = if k = 0 then 0 else d
theorem OneD.start (T : List UInt8) : OneD T 0 0 := fun _ _ _ => rfl
theorem OneD.step {T : List UInt8} {k m x : Nat} (h : OneD T k m) (hk : k < T.length) (hx : (T.getD k 0).toNat = 48 + x) : OneD T (k + 1) (10 * m + x) := by
  rintro d hd rfl
  have hk0 : k = 0 := by simpa using hk
  subst hk0
  have h1 := h d hd rfl
  simp only [List.getD_cons_zero] at hx
  have := digC_toNat hd
  simp at h1 ⊢
  omega
end Go.Cm
namespace Go.Proofs.YtdngkfedkgiioaaDoor
open Go.RowKit Go.Cm

/-- what the reader of numerals gives -/
def NumOut (s : List UInt8) (w : World) (e : Ending) (w' : World) : Prop := ∃ (z : Int) (b : Bool), e = .returned (.tuple #[.int .i64 z, .bool b]) ∧ NumR s z b ∧ (-9223372036854775808 ≤ z ∧ z ≤ 9223372036854775807) ∧ Ext w w'
set_option maxRecDepth 100000 in
set_option maxHeartbeats 2000000 in
theorem spec_l1Read_any (s : List UInt8) (w : World) (hs : s.length ≤ 1048576) :
    Calls Tryd.prog 110 #[.string (mkS s), .int .i64 12] w fun e w' => NumOut s w e w' := by
  obtain ⟨n, hn⟩ : ∃ n, n = s.length := ⟨_, rfl⟩
  have hsz : (mkS s).size = n := by rw [mkS_size, hn]
  rw [← hn] at hs
  by_cases h0 : n = 0
  · have HN := Lib.hid (not_dig_len (T := s) (by omega))
    subst h0
    clear hn
    go_enter Tryd.func110, Tryd.ntmps110
    go_wp2
    refine bodyPost_ret (v := .tuple #[.int .i64 0, .bool false]) (by simp [results, Tryd.results110]) rfl ⟨0, false, rfl, NumR.no HN.out, by omega, Ext.refl _⟩
  have hget0 := mkS_get s 0 (by rw [hsz]; omega)
  have h0s : 0 < (mkS s).size := by rw [hsz]; omega
  have hpos : 0 < n := by omega
  by_cases hmin : s.getD 0 0 = 45
  · have hb : (((mkS s)[0].toNat : Int) == 45) = true := by rw [hget0, hmin]; rfl
    obtain ⟨T, hT⟩ : ∃ T, T = s.drop 1 := ⟨_, rfl⟩
    have hsT : s = 45 :: T := by
      cases s with
      | nil => simp at hn; omega
      | cons x r =>
        simp only [List.getD_cons_zero] at hmin
        rw [hT, hmin]
        rfl
    have hsl := mkS_tail2 s 1
    rw [hsz, ← hT] at hsl
    obtain ⟨L, hL⟩ : ∃ L, L = n - 1 := ⟨_, rfl⟩
    have hlT : T.length = L := by rw [hT, List.length_drop, hL, hn]
    have h1n : (1 : Int) ≤ (n : Int) := by omega
    have hLn : (n : Int) - 1 = (L : Int) := by omega
    have HM := Lib.hid (show ∀ d, d < 10 → s ≠ [digC d] by rw [hsT]; exact not_dig_minus)
    clear hT hn hget0 hmin hsT hL
    have hTl : (mkS T).size = L := (by rw [mkS_size]; exact hlT)
    by_cases hbad : L < 1
    · first
        | (exfalso; omega)
        | (have HN := Lib.hid (show ∀ d, d < 10 → s ≠ [digC d] from HM.out)
           go_enter Tryd.func110, Tryd.ntmps110
           go_wp2
           refine bodyPost_ret (v := .tuple #[.int .i64 0, .bool false]) (by simp [results, Tryd.results110]) rfl ⟨0, false, rfl, NumR.no HN.out, by omega, Ext.refl _⟩)
    by_cases hbad2 : 12 < L
    · have HN := Lib.hid (show ∀ d, d < 10 → s ≠ [digC d] from HM.out)
      go_enter Tryd.func110, Tryd.ntmps110
      go_wp2
      refine bodyPost_ret (v := .tuple #[.int .i64 0, .bool false]) (by simp [results, Tryd.results110]) rfl ⟨0, false, rfl, NumR.no HN.out, by omega, Ext.refl _⟩
    have hL1 : 1 ≤ L := by omega
    have hL12 : L ≤ 12 := by omega
    clear hbad hbad2
    go_enter Tryd.func110, Tryd.ntmps110
    go_wp2
    go_loop [8, 9] (fun v i => ∃ k m : Nat, k ≤ L ∧ i = .int .i64 k ∧ v = .int .i64 m ∧ m < 10 ^ k ∧ OneD T k m) (fun _ i => L - (intOf i).toNat)
    case atStart => exact ⟨0, 0, by omega, rfl, rfl, by simp, OneD.start _⟩
    case round =>
      obtain ⟨k, m, hk, rfl, rfl, hm, ho⟩ := hrel
      have hpow : 10 ^ k ≤ 10 ^ 12 := Nat.pow_le_pow_right (by omega) (by omega)
      have hm12 : m ≤ 1000000000000 := by omega
      by_cases hlt : k < L
      · have hkt : k < (mkS T).size := by rw [hTl]; exact hlt
        have hget := mkS_get T k hkt
        by_cases hd : ((mkS T)[k]).toNat < 48
        · have HN := Lib.hid (show ∀ d, d < 10 → s ≠ [digC d] from (fun (_ : (T.getD k 0).toNat < 48 ∨ 57 < (T.getD k 0).toNat) => HM.out) (.inl (by rw [← hget]; exact hd)))
          clear hget hm hpow ho
          go_wp2
          refine bodyPost_ret (v := .tuple #[.int .i64 0, .bool false]) (by simp [results, Tryd.results110]) rfl ⟨0, false, rfl, NumR.no HN.out, by omega, Ext.refl _⟩
        by_cases hd2 : 57 < ((mkS T)[k]).toNat
        · have HN := Lib.hid (show ∀ d, d < 10 → s ≠ [digC d] from (fun (_ : (T.getD k 0).toNat < 48 ∨ 57 < (T.getD k 0).toNat) => HM.out) (.inr (by rw [← hget]; exact hd2)))
          clear hget hm hpow ho
          go_wp2
          refine bodyPost_ret (v := .tuple #[.int .i64 0, .bool false]) (by simp [results, Tryd.results110]) rfl ⟨0, false, rfl, NumR.no HN.out, by omega, Ext.refl _⟩
        obtain ⟨x, hx⟩ : ∃ x, ((mkS T)[k]).toNat = 48 + x := ⟨((mkS T)[k]).toNat - 48, by omega⟩
        have hx9 : x ≤ 9 := by omega
        have ho2 := ho.step (by rw [← mkS_size T]; exact hkt) (by rw [← hget]; exact hx)
        have hm2 : 10 * m + x < 10 ^ (k + 1) := by rw [Nat.pow_succ]; omega
        have HO := Lib.hid (And.intro ho2 hm2)
        clear ho ho2 hm2 hm hpow hget
        go_wp2
        go_round
        case rel => exact ⟨k + 1, 10 * m + x, by omega, by go_num, by go_num, HO.out.2, HO.out.1⟩
        case measure => simp [intOf]; omega
      · have hkL : k = L := by omega
        subst hkL
        have hf := fun w => spec_FormatInt_any (-(m : Int)) w (by omega) (by omega)
        have hbq := mkS_beq (Lib.itoa (-(m : Int))) s
        obtain ⟨a, ha⟩ : ∃ a : List UInt8, a = Lib.itoa (-(m : Int)) := ⟨_, rfl⟩
        rw [← ha] at hf hbq
        have HF := Lib.hid (And.intro hf (And.intro ha ho))
        clear hf ha ho hm hpow
        by_cases he : a = s
        · have hb1 : ((mkS a).toList == (mkS s).toList) = true := by rw [hbq]; simpa using he
          clear hbq
          go_wp2_with fail
          with_reducible refine (HF.out.1 _).mono ?_
          rintro e w1 ⟨rfl, hx⟩
          go_wp2
          refine bodyPost_ret (v := .tuple #[.int .i64 (-(m : Int)), .bool true]) (by simp [results, Tryd.results110]) rfl ⟨(-(m : Int)), true, rfl, NumR.yes (by rw [← he]; exact HF.out.2.1) (fun d hd e => absurd e (HM.out d hd)), by omega, hx⟩
        · have hb1 : ((mkS a).toList == (mkS s).toList) = false := by rw [hbq]; simpa using he
          clear hbq
          go_wp2_with fail
          with_reducible refine (HF.out.1 _).mono ?_
          rintro e w1 ⟨rfl, hx⟩
          go_wp2
          refine bodyPost_ret (v := .tuple #[.int .i64 0, .bool false]) (by simp [results, Tryd.results110]) rfl ⟨0, false, rfl, NumR.no HM.out, by omega, hx⟩
  · have hb : (((mkS s)[0].toNat : Int) == 45) = false := by
      rw [hget0, beq_eq_false_iff_ne]
      intro e
      exact hmin (UInt8.toNat_inj.1 (by show (s.getD 0 0).toNat = 45; omega))
    clear hget0 hmin
    have hTl : (mkS s).size = n := hsz
    by_cases hbad : n < 1
    · first
        | (exfalso; omega)
        | (have HN := Lib.hid (show ∀ d, d < 10 → s ≠ [digC d] from (not_dig_len (by omega)))
           go_enter Tryd.func110, Tryd.ntmps110
           go_wp2
           refine bodyPost_ret (v := .tuple #[.int .i64 0, .bool false]) (by simp [results, Tryd.results110]) rfl ⟨0, false, rfl, NumR.no HN.out, by omega, Ext.refl _⟩)
    by_cases hbad2 : 12 < n
    · have HN := Lib.hid (show ∀ d, d < 10 → s ≠ [digC d] from (not_dig_len (by omega)))
      go_enter Tryd.func110, Tryd.ntmps110
      go_wp2
      refine bodyPost_ret (v := .tuple #[.int .i64 0, .bool false]) (by simp [results, Tryd.results110]) rfl ⟨0, false, rfl, NumR.no HN.out, by omega, Ext.refl _⟩
    have hL1 : 1 ≤ n := by omega
    have hL12 : n ≤ 12 := by omega
    clear hbad hbad2
    go_enter Tryd.func110, Tryd.ntmps110
    go_wp2
    go_loop [8, 9] (fun v i => ∃ k m : Nat, k ≤ n ∧ i = .int .i64 k ∧ v = .int .i64 m ∧ m < 10 ^ k ∧ OneD s k m) (fun _ i => n - (intOf i).toNat)
    case atStart => exact ⟨0, 0, by omega, rfl, rfl, by simp, OneD.start _⟩
    case round =>
      obtain ⟨k, m, hk, rfl, rfl, hm, ho⟩ := hrel
      have hpow : 10 ^ k ≤ 10 ^ 12 := Nat.pow_le_pow_right (by omega) (by omega)
      have hm12 : m ≤ 1000000000000 := by omega
      by_cases hlt : k < n
      · have hkt : k < (mkS s).size := by rw [hTl]; exact hlt
        have hget := mkS_get s k hkt
        by_cases hd : ((mkS s)[k]).toNat < 48
        · have HN := Lib.hid (show ∀ d, d < 10 → s ≠ [digC d] from (not_dig_at (by rw [← mkS_size]; exact hkt)) (.inl (by rw [← hget]; exact hd)))
          clear hget hm hpow ho
          go_wp2
          refine bodyPost_ret (v := .tuple #[.int .i64 0, .bool false]) (by simp [results, Tryd.results110]) rfl ⟨0, false, rfl, NumR.no HN.out, by omega, Ext.refl _⟩
        by_cases hd2 : 57 < ((mkS s)[k]).toNat
        · have HN := Lib.hid (show ∀ d, d < 10 → s ≠ [digC d] from (not_dig_at (by rw [← mkS_size]; exact hkt)) (.inr (by rw [← hget]; exact hd2)))
          clear hget hm hpow ho
          go_wp2
          refine bodyPost_ret (v := .tuple #[.int .i64 0, .bool false]) (by simp [results, Tryd.results110]) rfl ⟨0, false, rfl, NumR.no HN.out, by omega, Ext.refl _⟩
        obtain ⟨x, hx⟩ : ∃ x, ((mkS s)[k]).toNat = 48 + x := ⟨((mkS s)[k]).toNat - 48, by omega⟩
        have hx9 : x ≤ 9 := by omega
        have ho2 := ho.step (by rw [← mkS_size s]; exact hkt) (by rw [← hget]; exact hx)
        have hm2 : 10 * m + x < 10 ^ (k + 1) := by rw [Nat.pow_succ]; omega
        have HO := Lib.hid (And.intro ho2 hm2)
        clear ho ho2 hm2 hm hpow hget
        go_wp2
        go_round
        case rel => exact ⟨k + 1, 10 * m + x, by omega, by go_num, by go_num, HO.out.2, HO.out.1⟩
        case measure => simp [intOf]; omega
      · have hkL : k = n := by omega
        subst hkL
        have hf := fun w => spec_FormatInt_any (m : Int) w (by omega) (by omega)
        have hbq := mkS_beq (Lib.itoa (m : Int)) s
        obtain ⟨a, ha⟩ : ∃ a : List UInt8, a = Lib.itoa (m : Int) := ⟨_, rfl⟩
        rw [← ha] at hf hbq
        have HF := Lib.hid (And.intro hf (And.intro ha ho))
        clear hf ha ho hm hpow
        by_cases he : a = s
        · have hb1 : ((mkS a).toList == (mkS s).toList) = true := by rw [hbq]; simpa using he
          clear hbq
          go_wp2_with fail
          with_reducible refine (HF.out.1 _).mono ?_
          rintro e w1 ⟨rfl, hx⟩
          go_wp2
          refine bodyPost_ret (v := .tuple #[.int .i64 (m : Int), .bool true]) (by simp [results, Tryd.results110]) rfl ⟨(m : Int), true, rfl, NumR.yes (by rw [← he]; exact HF.out.2.1) (fun d hd e => by have h1 := HF.out.2.2 d hd e; rw [if_neg (by omega)] at h1; rw [h1]), by omega, hx⟩
        · have hb1 : ((mkS a).toList == (mkS s).toList) = false := by rw [hbq]; simpa using he
          clear hbq
          go_wp2_with fail
          with_reducible refine (HF.out.1 _).mono ?_
          rintro e w1 ⟨rfl, hx⟩
          go_wp2
          refine bodyPost_ret (v := .tuple #[.int .i64 0, .bool false]) (by simp [results, Tryd.results110]) rfl ⟨0, false, rfl, NumR.no (fun d hd e => he (by have h1 := HF.out.2.2 d hd e; rw [if_neg (by omega)] at h1; rw [HF.out.2.1, h1, itoa_dig hd]; exact e.symm)), by omega, hx⟩
end Go.Proofs.YtdngkfedkgiioaaDoor

/- Contracts: a numeral and a code read, by the reference. -/
namespace Go.Proofs.YtdngkfedkgiioaaDoor
open Go.RowKit Go.Cm

theorem spec_ParseInt_any (s : List UInt8) (w : World) (hs : s.length ≤ 1048576) :
    Calls Tryd.prog 105 #[.string (mkS s)] w fun e w' => NumOut s w e w' := by
  have HC := Lib.hid (spec_l1Read_any s w hs)
  go_enter Tryd.func105, Tryd.ntmps105
  go_wp2_with fail
  with_reducible refine HC.out.mono ?_
  rintro e w1 ⟨z, b, rfl, hn, hb, hx⟩
  have HN := Lib.hid (And.intro hn (And.intro hb hx))
  clear hn hb hx
  go_wp2
  exact bodyPost_ret (v := .tuple #[.int .i64 z, .bool b]) (by simp [results, Tryd.results105]) rfl ⟨z, b, rfl, HN.out.1, HN.out.2.1, HN.out.2.2⟩

/-- what the reader of codes gives -/
def CodeOut (s : List UInt8) (w : World) (e : Ending) (w' : World) : Prop :=
  (∃ k n o, parseC s = some (k, n, o) ∧ e = .returned (.tuple #[.agg #[.int .i64 (k : Nat), .int .i64 (n : Nat), .string o], .bool true]) ∧ o.size ≤ 1048576 ∧ Ext w w') ∨
  (parseC s = none ∧ e = .returned (.tuple #[.agg #[.int .i64 0, .int .i64 0, .string ⟨#[]⟩], .bool false]) ∧ Ext w w')

theorem codeOk_dig {z z' : Int} {o : ByteArray} (h : codeOk z z' o = true) : ∃ k n : Nat, z = k ∧ z' = n ∧ k < 10 ∧ n < 10 := by
  obtain ⟨K, n, rfl, rfl, h1, h2, h3, h4, -⟩ := codeOk_parts h
  exact ⟨K, n, rfl, rfl, by omega, by omega⟩

theorem spec_SplitBlank_any (s : List UInt8) (w : World) (hs : s.length ≤ 1048576) :
    Calls Tryd.prog 104 #[.string (mkS s), .int .u8 32] w fun e w' => ∃ z, e = .returned z ∧ Own w' w.heap.size 9 z (scells (splitL 32 s)) ∧ Ext w w' := spec_SplitByte_any s 32 w hs

end Go.Proofs.YtdngkfedkgiioaaDoor

/- Contract: a table of single digits read, by the reference. -/
namespace Go.Proofs.YtdngkfedkgiioaaDoor
open Go.RowKit Go.Mx Go.Cm

theorem spec_Split47_any (s : List UInt8) (w : World) (hs : s.length ≤ 1048576) :
    Calls Tryd.prog 104 #[.string (mkS s), .int .u8 47] w fun e w' => ∃ z, e = .returned z ∧ Own w' w.heap.size 9 z (scells (splitL 47 s)) ∧ Ext w w' := spec_SplitByte_any s 47 w hs
theorem spec_Split44_any (s : List UInt8) (w : World) (hs : s.length ≤ 1048576) :
    Calls Tryd.prog 104 #[.string (mkS s), .int .u8 44] w fun e w' => ∃ z, e = .returned z ∧ Own w' w.heap.size 9 z (scells (splitL 44 s)) ∧ Ext w w' := spec_SplitByte_any s 44 w hs
/-- another row stays behind an append -/
theorem keep_row {w w' : World} {g g' n n' c c' : Nat} (hg : w.grownBy w' (Value.slice (some ⟨g, 0, none⟩) n c).ownBlock ∧ Moved w (Value.slice (some ⟨g, 0, none⟩) n c) (Value.slice (some ⟨g', 0, none⟩) n' c')) {B : Nat} {E : TypeId} {b K cz : Nat} {fs : List Value} (hz : Own w B E (.slice (some ⟨b, 0, none⟩) K cz) fs) (hne : g ≠ b) : Own w' B E (.slice (some ⟨b, 0, none⟩) K cz) fs ∧ g' ≠ b := by
  have hlt := hz.lt.2
  refine ⟨GB.own hg.1 hz ?_, ?_⟩
  · intro k hk
    simp [Value.ownBlock] at hk
    subst hk
    intro e
    simp [Value.ownBlock] at e
    exact hne e
  · rcases hg.2 with hm | hm
    · have : g' = g := by simpa [Value.ownBlock] using hm
      omega
    · have := hm g' rfl
      omega
/-- a row of words that is not empty -/
theorem words_at {w : World} {B : Nat} {E : TypeId} {v : Value} {F : List (List UInt8)} (h : Own w B E v (scells F)) (h0 : F ≠ []) : ∃ b c, v = .slice (some ⟨b, 0, none⟩) F.length c ∧ B ≤ b := by
  rcases h.shape with ⟨_, hn⟩ | ⟨g, c, hv, hg, _⟩
  · exact absurd (by simpa [scells] using hn) h0
  · rw [scells_length] at hv
    exact ⟨g, c, hv, hg⟩

set_option maxRecDepth 100000 in
set_option maxHeartbeats 4000000 in
theorem spec_ParseMatrix_dig (s : List UInt8) (w : World) (hs : s.length ≤ 1000) (hd : digT s = true) (hm : isMat (valT s) = true) :
    Calls Tryd.prog 96 #[.string (mkS s)] w fun e w' => ∃ u, e = .returned (.tuple #[u, .bool true]) ∧ ResM w' w.heap.size u (valT s) ∧ Ext w w' := by
  have hB0 : MTab (w.alloc (.cells #[] 26)) w.heap.size 26 3 w.heap.size 0 0 (fun _ => 0) (fun _ => 0) (valTo s 0) := by rw [valTo_zero]; exact MTab.nil (Own.lit w 26 [] (by simp)) _ _
  have hx0 := Ext.alloc w (.cells #[] 26)
  have hsp := fun w => spec_Split47_any s w (by omega)
  have hmem := splitL_mem 47 s
  have hcnt := splitL_len 47 s
  have hne0 := splitL_ne 47 s
  have hrow := fun i (hi : i < (splitL 47 s).length) => digT_row hd hi
  have hsucc := valTo_succ s
  have hlenT := valTo_length s
  have hallT := valTo_all s
  obtain ⟨A, hA⟩ : ∃ A, A = splitL 47 s := ⟨_, rfl⟩
  rw [← hA] at hsp hmem hcnt hne0 hrow hsucc hlenT hallT
  obtain ⟨K, hK⟩ : ∃ K, K = A.length := ⟨_, rfl⟩
  rw [← hK] at hcnt hrow hsucc hlenT hallT
  have hK1 : K ≤ 1001 := by omega
  have hmatch : (valT s).length = K := by rw [valT_length, ← hA, hK]
  have HM := Lib.hid (And.intro hsp (And.intro hmem (And.intro hrow (And.intro hsucc (And.intro hlenT (And.intro hallT (And.intro hK (And.intro hm (And.intro hmatch hs)))))))))
  clear hsp hmem hrow hsucc hlenT hallT hK hd hm hA hcnt hmatch hs
  go_enter Tryd.func96, Tryd.ntmps96
  go_wp2_with fail
  with_reducible refine (HM.out.1 _).mono ?_
  rintro e w1 ⟨z, rfl, hz, hy⟩
  replace hB0 := hB0.ext hy
  replace hx0 := hx0.trans hy
  clear hy
  obtain ⟨bz, cz, rfl, hbz⟩ := words_at hz hne0
  have hKc := hz.caps
  rw [← HM.out.2.2.2.2.2.2.1] at hz hKc ⊢
  have hgz : w.heap.size ≠ bz := by simp at hbz; omega
  clear hne0 hbz
  obtain ⟨S0, hS0⟩ : ∃ S0, S0 = (w.alloc (.cells #[] 26)).heap.size := ⟨_, rfl⟩
  rw [← hS0] at hz
  clear hS0
  go_wp2
  go_loopw [4, 6] (fun v q wr => ∃ (k g cap : Nat) (gs cs : Nat → Nat), k ≤ K ∧ q = .int .i64 k ∧ v = .slice (some ⟨g, 0, none⟩) k cap ∧ MTab wr w.heap.size 26 3 g k cap gs cs (valTo s k) ∧ Ext w wr ∧ Own wr S0 9 (.slice (some ⟨bz, 0, none⟩) K cz) (scells A) ∧ g ≠ bz) (fun _ q _ => K - (intOf q).toNat)
  case atStart => exact ⟨0, _, _, _, _, by omega, rfl, rfl, hB0, hx0, hz, hgz⟩
  case round =>
    clear hB0 hz hgz
    obtain ⟨i, g, cap, gs, cs, hi, rfl, rfl, ht, hx, hz, hgz⟩ := hrel
    by_cases hlti : i < K
    · obtain ⟨wm, rfl⟩ : ∃ wm : World, wm = wr := ⟨_, rfl⟩
      have hcI := Own.word_at hz i (by rw [← HM.out.2.2.2.2.2.2.1]; exact hlti)
      have hdr := HM.out.2.2.1 i hlti
      have hsu := HM.out.2.2.2.1 i hlti
      have hlr : (A.getD i []).length ≤ 1000 := by
        have hmm := HM.out.2.1 (A.getD i []) (by rw [List.getD_eq_getElem?_getD, List.getElem?_eq_getElem (by rw [← HM.out.2.2.2.2.2.2.1]; exact hlti)]; exact List.getElem_mem _)
        have := HM.out.2.2.2.2.2.2.2.2.2
        omega
      obtain ⟨r, hr⟩ : ∃ r, r = A.getD i [] := ⟨_, rfl⟩
      rw [← hr] at hdr hsu hlr hcI
      have hfull := ht.full (HM.out.2.2.2.2.1 i hi).symm
      have hgl := ht.lt
      have hgsl := ht.rowlt
      have hv1 : (rowsV gs cs (valTo s i)).length + 1 ≤ maxLen := by rw [rowsV_length, HM.out.2.2.2.2.1 i hi]; unfold maxLen; omega
      have hv2 : ((rowsV gs cs (valTo s i)).length + 1) * 24 ≤ 140737488355328 := by rw [rowsV_length, HM.out.2.2.2.2.1 i hi]; omega
      have HT := Lib.hid (And.intro hfull (And.intro hgl (And.intro hgsl (And.intro ht (And.intro hv1 (And.intro hv2 (And.intro hsu (And.intro hz hgz))))))))
      have hzz : Own (wm.alloc (.cells #[] 3)) wm.heap.size 3 (.slice (some ⟨wm.heap.size, 0, none⟩) 0 0) (icells (rowTo r 0)) := by rw [rowTo_zero]; exact Own.lit wm 3 [] (by simp)
      have hy0 := Ext.alloc wm (.cells #[] 3)
      replace hcI := hy0.cell_some hcI
      have hsp := fun w => spec_Split44_any r w (by omega)
      have hmem := splitL_mem 44 r
      have hcnt := splitL_len 44 r
      have hne0 := splitL_ne 44 r
      have hdj := fun j (hj : j < (splitL 44 r).length) => digR_at hdr hj
      have hrs := rowTo_succ r
      have hrl := rowTo_length r
      have hra := rowTo_all r
      obtain ⟨C, hC⟩ : ∃ C, C = splitL 44 r := ⟨_, rfl⟩
      rw [← hC] at hsp hmem hcnt hne0 hdj hrs hrl hra
      obtain ⟨M, hM⟩ : ∃ M, M = C.length := ⟨_, rfl⟩
      rw [← hM] at hcnt hdj hrs hrl hra
      have hM1 : M ≤ 1001 := by omega
      have HR := Lib.hid (And.intro hsp (And.intro hmem (And.intro hdj (And.intro hrs (And.intro hrl (And.intro hra (And.intro hM hlr)))))))
      clear hsp hmem hdj hrs hrl hra hM hlr hC hcnt ht hfull hgl hgsl hv1 hv2 hsu hdr hr hz hgz
      go_wp2_with fail
      with_reducible refine (HR.out.1 _).mono ?_
      rintro e w2 ⟨z2, rfl, hz2, hy⟩
      replace hzz := hzz.ext hy
      replace hy0 := hy0.trans hy
      clear hy hcI
      obtain ⟨b2, c2, rfl, hb2⟩ := words_at hz2 hne0
      have hMc := hz2.caps
      rw [← HR.out.2.2.2.2.2.2.1] at hz2 hMc ⊢
      have hg2 : wm.heap.size ≠ b2 := by simp at hb2; omega
      clear hne0 hb2
      obtain ⟨S2, hS2⟩ : ∃ S2, S2 = (wm.alloc (.cells #[] 3)).heap.size := ⟨_, rfl⟩
      rw [← hS2] at hz2
      clear hS2
      go_wp2
      go_loopw [7, 9] (fun v q wr => ∃ (k gr cr : Nat), k ≤ M ∧ q = .int .i64 k ∧ v = .slice (some ⟨gr, 0, none⟩) k cr ∧ Own wr wm.heap.size 3 (.slice (some ⟨gr, 0, none⟩) k cr) (icells (rowTo r k)) ∧ Ext wm wr ∧ Own wr S2 9 (.slice (some ⟨b2, 0, none⟩) M c2) (scells C) ∧ gr ≠ b2) (fun _ q _ => M - (intOf q).toNat)
      case atStart => exact ⟨0, _, _, by omega, rfl, rfl, hzz, hy0, hz2, hg2⟩
      case round =>
        clear hzz hy0 hz2 hg2
        obtain ⟨j, gr, cr, hj, rfl, rfl, hown, hy, hz2, hg2⟩ := hrel
        by_cases hltj : j < M
        · have hcJ := Own.word_at hz2 j (by rw [← HR.out.2.2.2.2.2.2.1]; exact hltj)
          obtain ⟨d, hd10, hpe, hdv⟩ := digP_dig (HR.out.2.2.1 j hltj)
          have hrs := HR.out.2.2.2.1 j hltj
          rw [hdv] at hrs
          rw [hpe] at hcJ
          have hpi := fun w => spec_ParseInt_any [digC d] w (by simp)
          have hlen := HR.out.2.2.2.2.1 j hj
          have hu1 : (icells (rowTo r j)).length + 1 ≤ maxLen := by rw [icells_length, hlen]; unfold maxLen; omega
          have hu2 : ((icells (rowTo r j)).length + 1) * 8 ≤ 140737488355328 := by rw [icells_length, hlen]; omega
          obtain ⟨p, hp⟩ : ∃ p, p = mkS [digC d] := ⟨_, rfl⟩
          rw [← hp] at hcJ hpi
          have HJ := Lib.hid (And.intro hown (And.intro hu1 (And.intro hu2 (And.intro hrs (And.intro hpi (And.intro hd10 (And.intro hz2 hg2)))))))
          clear hown hu1 hu2 hrs hpi hlen hpe hdv hp hz2 hg2
          go_wp2_with fail
          with_reducible refine (HJ.out.2.2.2.2.1 _).mono ?_
          rintro e w3 ⟨zi, bi, rfl, hnr, -, hy3⟩
          obtain ⟨rfl, rfl⟩ := hnr.2 d HJ.out.2.2.2.2.2.1 rfl
          replace hy := hy.trans hy3
          have hown3 := HJ.out.1.ext hy3
          have hz3 := HJ.out.2.2.2.2.2.2.1.ext hy3
          have HO := Lib.hid (And.intro hown3 hz3)
          clear hnr hcJ hown3 hy3 hz3
          go_wp2_with (at_builtin; refine wpList_append_one rfl (.tmp 44) (.tmp 46) 26 rfl 3 _ _ Tryd.underlying26 infoInt rfl wm.heap.size _ (icells (rowTo r j)) rfl (HO.out.1.ext (Ext.alloc _ _)) _ _ rfl (by simp; rfl) rfl HJ.out.2.1 HJ.out.2.2.1 wm rfl (hy.trans (Ext.alloc _ _)) ?_; intro v4 w4 hown4 hx4 hmv4; have H4 := Lib.hid (And.intro hown4 (And.intro hx4 hmv4)); clear hown4 hx4 hmv4)
          go_roundw
          case rel =>
            have ho := H4.out.1
            rw [icells_snoc, ← HJ.out.2.2.2.1] at ho
            have hl1 := HR.out.2.2.2.2.1 (j + 1) (by omega)
            rcases ho.shape with ⟨_, hn⟩ | ⟨g5, c5, hv5, hg5, _⟩
            · have := congrArg List.length hn
              rw [icells_length, hl1] at this
              simp at this
            · rw [icells_length, hl1] at hv5
              rw [hv5] at ho
              have hk := H4.out.2.2
              rw [hv5] at hk
              have hkk := keep_row hk (HO.out.2.ext (Ext.alloc _ _)) HJ.out.2.2.2.2.2.2.2
              exact ⟨j + 1, g5, c5, by omega, by go_num, hv5, ho, H4.out.2.1, hkk.1, hkk.2⟩
          case measure => simp [intOf]; omega
        · have hjM : j = M := by omega
          subst hjM
          have hH := Lib.hid hown
          clear hown hz2 hg2
          go_wp2_with (at_builtin; refine wpList_append_one rfl (.tmp 48) (.tmp 50) 24 rfl 26 _ _ Tryd.underlying24 infoRow rfl w.heap.size _ (rowsV gs cs (valTo s i)) rfl ((HT.out.1.ext hy).ext (Ext.alloc _ _)) _ _ rfl (by simp; rfl) rfl HT.out.2.2.2.2.1 HT.out.2.2.2.2.2.1 w rfl ((hx.trans hy).trans (Ext.alloc _ _)) ?_; intro v4 w4 hown4 hx4 hmv4; have H4 := Lib.hid (And.intro hown4 (And.intro hx4 hmv4)); clear hown4 hx4 hmv4)
          go_roundw
          case rel =>
            have ht3 := (HT.out.2.2.2.1.ext hy).ext (Ext.alloc _ (.cells #[.slice (some ⟨gr, 0, none⟩) j cr] 26))
            have hlen3 : (rowD r).length = j := by rw [← HR.out.2.2.2.2.2.1]; exact HR.out.2.2.2.2.1 j (Nat.le_refl _)
            have hlt3 := hH.out.lt
            have hH2 := hH.out
            rw [HR.out.2.2.2.2.2.1] at hH2
            obtain ⟨g', cap', gs', cs', hv', ht'⟩ := ht3.push (r := rowD r) (gr := gr) (cr := cr) (HM.out.2.2.2.2.1 i hi).symm (by rw [hlen3]; exact ((hH2.mono hx.size).ext (Ext.alloc _ _))) (by have := HT.out.2.1; omega) (fun q hq => by have := HT.out.2.2.1 q hq; omega) (by rw [hlen3]; exact H4.out.1) H4.out.2.2
            rw [← HT.out.2.2.2.2.2.2.1] at ht'
            have hk := H4.out.2.2
            rw [hv'] at hk
            have hkk := keep_row hk ((HT.out.2.2.2.2.2.2.2.1.ext hy).ext (Ext.alloc _ _)) HT.out.2.2.2.2.2.2.2.2
            exact ⟨i + 1, g', cap', gs', cs', by omega, by go_num, hv', ht', H4.out.2.1, hkk.1, hkk.2⟩
          case measure => simp [intOf]; omega
    · have hiK : i = K := by omega
      rw [hiK, HM.out.2.2.2.2.2.1] at ht
      have HT := Lib.hid ht
      clear ht hz hgz
      subst hiK
      have hrd := HT.out.reads HM.out.2.2.2.2.2.2.2.2.1.symm
      have him := fun w h => spec_IsMatrix_any (.slice (some ⟨g, 0, none⟩) i cap) (valT s) w h
      have HI := Lib.hid (And.intro hrd him)
      clear hrd him
      go_wp2_with fail
      with_reducible refine (HI.out.2 _ HI.out.1).mono ?_
      rintro e w5 ⟨rfl, rfl⟩
      rw [HM.out.2.2.2.2.2.2.2.1]
      go_wp2
      refine bodyPost_ret (v := .tuple #[.slice (some ⟨g, 0, none⟩) i cap, .bool true]) (by simp [results, Tryd.results96, go_sem]) rfl ?_
      exact ⟨_, rfl, .inr ⟨g, cap, gs, cs, by rw [HM.out.2.2.2.2.2.2.2.2.1], by rw [HM.out.2.2.2.2.2.2.2.2.1]; exact HT.out⟩, hx⟩
end Go.Proofs.YtdngkfedkgiioaaDoor


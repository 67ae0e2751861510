/- Contracts: the decimal numeral of any number, by the program and by the reference. -/
import Derived.Test.YtgaeeibcfoppbaaDoorCodeB
import Derived.Test.YtgaeeibcfoppbaaDoorOwn
import Derived.Test.YtgaeeibcfoppbaaDoorApplyMath
import Derived.Test.YtgaeeibcfoppbaaDoorShelf
import Derived.Lib.ItoaLen
import Derived.Lib.ItoaMem
import Derived.Lib.LaidTab
import Derived.Sort.OwnSorted
namespace Go.Proofs.YtgaeeibcfoppbaaDoor
open Go.RowKit Go.Cm

/-- the library's table of powers of ten is as the program's text lays it -/
def TabC (w : World) : Prop := Lib.TabIs Tryd.prog w "internal/strconv.uint64pow10" .u64 Lib.pow10Tab
theorem tab_named : Tryd.prog.globalNamed "internal/strconv.uint64pow10" = some 5 := by kernel_rfl
theorem TabC.ext {w w' : World} (h : TabC w) (hx : Ext w w') : TabC w' := by
  unfold TabC Lib.TabIs World.var? at h ⊢
  rw [tab_named] at h ⊢
  simp only [Option.bind_some] at h ⊢
  have hlt : 5 < w.heap.size := by
    rcases Nat.lt_or_ge 5 w.heap.size with h' | h'
    · exact h'
    · rw [Array.getElem?_eq_none h'] at h; cases h
  rw [Below.block hx _ hlt]
  exact h
theorem ext_grow (w : World) (k : Nat) (os : Array Obj) : Ext w (Sort.grow (w.drewN k) os) := by
  refine ⟨rfl, rfl, rfl, by simp, fun b hb => ?_⟩
  rw [Sort.heap_grow_old _ _ (by simpa using hb)]
  rfl
theorem itoa_len {z : Int} (h0 : -9223372036854775808 ≤ z) (h1 : z ≤ 9223372036854775807) : (Lib.itoa z).length ≤ 21 := Lib.itoa_length_le z h0 h1

theorem impl_FormatInt_any (z : Int) (w : World) (h0 : -9223372036854775808 ≤ z) (h1 : z ≤ 9223372036854775807) (ht : TabC w) :
    Calls Tryd.prog 25 #[.int .i64 z] w fun e w' => e = .returned (.string (mkS (Lib.itoa z))) ∧ Ext w w' := by
  have HC := Lib.hid (Tryd.strconv_Itoa z h0 h1 w ht)
  go_enter Tryd.func25, Tryd.ntmps25
  go_wp2_with fail
  with_reducible refine HC.out.mono ?_
  rintro e w1 ⟨rfl, k, os, rfl⟩
  go_wp2
  go_ret
  exact ⟨rfl, ext_grow _ _ _⟩

/-- what is left of a number's digits -/
def leftD (m : Nat) : List UInt8 := if m = 0 then [] else Lib.decDigits m
theorem leftD_step {m : Nat} (h : 0 < m) : leftD m = leftD (m / 10) ++ [UInt8.ofNat (48 + m % 10)] := by
  unfold leftD
  rw [if_neg (by omega)]
  by_cases h10 : m < 10
  · rw [if_pos (by omega), Lib.decDigits, dif_pos h10, Nat.mod_eq_of_lt h10]
    rfl
  · rw [if_neg (by omega), Lib.decDigits, dif_neg h10]
theorem dec_convert {w : World} {v : Value} {i : Nat} (hi : i < 10) (h : BoxOf (.int .u8 (48 + (i : Int))) v w) : (convert 47 9 v).run Tryd.prog w = .ok (.string (mkS [UInt8.ofNat (48 + i)])) w := by
  obtain ⟨b, rfl, hc⟩ := h
  have hl3 : ((UInt8.ofNat (48 + i)).toNat : Int) = 48 + i := by
    have : (UInt8.ofNat (48 + i)).toNat = (48 + i) % 256 := rfl
    omega
  obtain ⟨c, hcc⟩ : ∃ c, c = UInt8.ofNat (48 + i) := ⟨_, rfl⟩
  rw [← hcc] at hl3 ⊢
  refine run_convert_bytes_back w _ _ 5 ⟨b, 0, none⟩ 1 [c] Tryd.underlying47 Tryd.underlying5 Tryd.underlying9 fun j hj => ?_
  have hj0 : j = 0 := by simp at hj; omega
  subst hj0
  simpa [Addr.add, hl3] using hc

set_option maxRecDepth 100000 in
set_option maxHeartbeats 1000000 in
theorem spec_FormatInt_any (z : Int) (w : World) (h0 : -9223372036854775808 ≤ z) (h1 : z ≤ 9223372036854775807) :
    Calls Tryd.prog 20 #[.int .i64 z] w fun e w' => e = .returned (.string (mkS (Lib.itoa z))) ∧ Ext w w' := by
  by_cases hz0 : z = 0
  · subst hz0
    have hv : mkS (Lib.itoa 0) = ⟨#[48]⟩ := by
      rw [show Lib.itoa 0 = [48] by unfold Lib.itoa; rw [if_neg (by omega)]; rw [show (0 : Int).toNat = 0 from rfl, Lib.decDigits, dif_pos (by omega)]; rfl]
      rfl
    rw [hv]
    go_enter Tryd.func20, Tryd.ntmps20
    go_wp2
    go_ret
    exact ⟨rfl, Ext.refl _⟩
  by_cases hneg : z < 0
  · obtain ⟨u, hu, rfl⟩ : ∃ u : Nat, 1 ≤ u ∧ z = -(u : Int) := ⟨z.natAbs, by omega, by omega⟩
    have hlen := itoa_len h0 h1
    rw [Lib.itoa_neg u hu] at hlen ⊢
    obtain ⟨a, ha⟩ : ∃ a : Int, a = -(u : Int) := ⟨_, rfl⟩
    rw [← ha] at h0 h1 hz0 hneg ⊢
    have HU := Lib.hid (And.intro hlen (And.intro hu ha))
    have hb : (a == 0) = false := by simpa using hz0
    have hu2 : u ≤ 9223372036854775808 := by omega
    clear hlen hu ha
    go_enter Tryd.func20, Tryd.ntmps20
    go_wp2
    go_loopw [0, 4] (fun n t wr => ∃ (m : Nat) (c : Int) (l : List UInt8), n = .int .i64 c ∧ c = -(m : Int) ∧ t = .string (mkS l) ∧ leftD u = leftD m ++ l ∧ m ≤ u ∧ Ext w wr) (fun n _ _ => (intOf n).natAbs)
    case atStart => exact ⟨u, a, [], rfl, HU.out.2.2, rfl, by simp, Nat.le_refl _, Ext.refl _⟩
    case round =>
      obtain ⟨m, c, l, rfl, hc, rfl, hd, hmu, hx⟩ := hrel
      have hll : l.length ≤ 21 := by
        have h1 := congrArg List.length hd
        rw [List.length_append] at h1
        have h2 := HU.out.1
        rw [List.length_cons] at h2
        have h3 : leftD u = Lib.decDigits u := if_neg (by have := HU.out.2.1; omega)
        rw [h3] at h1
        omega
      by_cases hm : m = 0
      · subst hm
        have hc0 : c = 0 := by omega
        subst hc0
        have hcat : (⟨#[45]⟩ : ByteArray) ++ mkS l = mkS (45 :: l) := by
          rw [show (⟨#[45]⟩ : ByteArray) = mkS [45] from rfl, mkS_append]
          rfl
        have hsz : (mkS l).size = l.length := mkS_size l
        have hs1 : (⟨#[45]⟩ : ByteArray).size = 1 := rfl
        have HD := Lib.hid (show Lib.decDigits u = l by
          have h3 : leftD u = Lib.decDigits u := if_neg (by have := HU.out.2.1; omega)
          rw [← h3, hd]
          rfl)
        clear hc hd
        go_wp2
        go_ret
        exact ⟨by rw [HD.out]; rfl, hx⟩
      · have hstep := leftD_step (Nat.pos_of_ne_zero hm)
        obtain ⟨r, hr⟩ : ∃ r, r = m % 10 := ⟨_, rfl⟩
        obtain ⟨q, hq⟩ : ∃ q, q = m / 10 := ⟨_, rfl⟩
        have hr10 : r < 10 := by omega
        have hmod : c.tmod 10 = -(r : Int) := by rw [hc, Int.neg_tmod, hr]; rfl
        have hdiv : c.tdiv 10 = -(q : Int) := by rw [hc, Int.neg_tdiv, hq]; rfl
        have hc0 : (c == 0) = false := by simp; omega
        have hc1 : (c != 0) = true := by simp; omega
        have hclt : c < 0 := by omega
        have hcge : -9223372036854775808 ≤ c := by omega
        have hqm : q < m := by omega
        have hqge : q ≤ 9223372036854775807 := by omega
        rw [← hr, ← hq] at hstep
        have hcat : mkS [UInt8.ofNat (48 + r)] ++ mkS l = mkS (UInt8.ofNat (48 + r) :: l) := by rw [mkS_append]; rfl
        have hsz : (mkS l).size = l.length := mkS_size l
        have hs1 : (mkS [UInt8.ofNat (48 + r)]).size = 1 := rfl
        have hcv := dec_convert (w := wr.alloc (.cells #[.int .u8 (48 + (r : Int))] 5)) (v := .slice (some ⟨wr.heap.size, 0, none⟩) 1 1) hr10 ⟨_, rfl, by simp⟩
        have HQ := Lib.hid (show leftD u = leftD q ++ (UInt8.ofNat (48 + r) :: l) by rw [hd, hstep]; simp)
        have HM := Lib.hid (And.intro hmu (And.intro hqm hc))
        obtain ⟨bx, hbx⟩ : ∃ bx, bx = mkS [UInt8.ofNat (48 + r)] := ⟨_, rfl⟩
        obtain ⟨cx, hcx⟩ : ∃ cx, cx = mkS (UInt8.ofNat (48 + r) :: l) := ⟨_, rfl⟩
        rw [← hbx] at hcat hs1 hcv
        rw [← hcx] at hcat
        have HX := Lib.hid hcx
        clear hc hd hmu hqm hr hq hstep hm hbx hcx
        by_cases hr0 : r = 0
        · subst hr0
          simp only [Int.natCast_zero, Int.add_zero, Int.neg_zero] at hcv hmod
          go_wp2
          go_roundw
          case rel => exact ⟨q, -(q : Int), UInt8.ofNat (48 + 0) :: l, by go_num, rfl, by rw [HX.out], HQ.out, by have := HM.out; omega, hx.trans (Ext.alloc _ _)⟩
          case measure => have := HM.out; simp [intOf]; omega
        · have hneg2 : -(r : Int) < 0 := by omega
          go_wp2
          go_roundw
          case rel => exact ⟨q, -(q : Int), UInt8.ofNat (48 + r) :: l, by go_num, rfl, by rw [HX.out], HQ.out, by have := HM.out; omega, hx.trans (Ext.alloc _ _)⟩
          case measure => have := HM.out; simp [intOf]; omega
  · obtain ⟨u, rfl⟩ : ∃ u : Nat, z = (u : Int) := ⟨z.toNat, by omega⟩
    have hlen := itoa_len h0 h1
    rw [Lib.itoa_nonneg u] at hlen ⊢
    have hu : 1 ≤ u := by omega
    have HU := Lib.hid (And.intro hlen hu)
    have hb : ((u : Int) == 0) = false := by simpa using hz0
    have hneg2 : decide ((u : Int) < 0) = false := by simp
    clear hlen
    go_enter Tryd.func20, Tryd.ntmps20
    go_wp2
    go_loopw [0, 4] (fun n t wr => ∃ (m : Nat) (l : List UInt8), n = .int .i64 m ∧ t = .string (mkS l) ∧ leftD u = leftD m ++ l ∧ m ≤ u ∧ Ext w wr) (fun n _ _ => (intOf n).natAbs)
    case atStart => exact ⟨u, [], rfl, rfl, by simp, Nat.le_refl _, Ext.refl _⟩
    case round =>
      obtain ⟨m, l, rfl, rfl, hd, hmu, hx⟩ := hrel
      have h3 : leftD u = Lib.decDigits u := if_neg (by have := HU.out.2; omega)
      have hll : l.length ≤ 21 := by
        have h1 := congrArg List.length hd
        rw [List.length_append, h3] at h1
        have h2 := HU.out.1
        omega
      have H3 := Lib.hid h3
      clear h3
      by_cases hm : m = 0
      · subst hm
        have HD := Lib.hid (show Lib.decDigits u = l by rw [← H3.out, hd]; rfl)
        clear hd
        go_wp2
        go_ret
        exact ⟨by rw [HD.out]; rfl, hx⟩
      · have hstep := leftD_step (Nat.pos_of_ne_zero hm)
        obtain ⟨r, hr⟩ : ∃ r, r = m % 10 := ⟨_, rfl⟩
        obtain ⟨q, hq⟩ : ∃ q, q = m / 10 := ⟨_, rfl⟩
        have hr10 : r < 10 := by omega
        have hmod : (m : Int) % 10 = (r : Int) := by omega
        have hdiv : (m : Int) / 10 = (q : Int) := by omega
        have hc0 : ((m : Int) == 0) = false := by simp; omega
        have hc1 : ((m : Int) != 0) = true := by simp; omega
        have hqm : q < m := by omega
        have hqge : q ≤ 9223372036854775807 := by omega
        have hm63 : m ≤ 9223372036854775807 := by omega
        rw [← hr, ← hq] at hstep
        have hcat : mkS [UInt8.ofNat (48 + r)] ++ mkS l = mkS (UInt8.ofNat (48 + r) :: l) := by rw [mkS_append]; rfl
        have hsz : (mkS l).size = l.length := mkS_size l
        have hs1 : (mkS [UInt8.ofNat (48 + r)]).size = 1 := rfl
        have hcv := dec_convert (w := wr.alloc (.cells #[.int .u8 (48 + (r : Int))] 5)) (v := .slice (some ⟨wr.heap.size, 0, none⟩) 1 1) hr10 ⟨_, rfl, by simp⟩
        have HQ := Lib.hid (show leftD u = leftD q ++ (UInt8.ofNat (48 + r) :: l) by rw [hd, hstep]; simp)
        have HM := Lib.hid (And.intro hmu hqm)
        obtain ⟨bx, hbx⟩ : ∃ bx, bx = mkS [UInt8.ofNat (48 + r)] := ⟨_, rfl⟩
        obtain ⟨cx, hcx⟩ : ∃ cx, cx = mkS (UInt8.ofNat (48 + r) :: l) := ⟨_, rfl⟩
        rw [← hbx] at hcat hs1 hcv
        rw [← hcx] at hcat
        have HX := Lib.hid hcx
        clear hd hmu hqm hr hq hstep hm hbx hcx
        go_wp2
        go_roundw
        case rel => exact ⟨q, UInt8.ofNat (48 + r) :: l, by go_num, by rw [HX.out], HQ.out, by have := HM.out; omega, hx.trans (Ext.alloc _ _)⟩
        case measure => have := HM.out; simp [intOf]; omega
end Go.Proofs.YtgaeeibcfoppbaaDoor

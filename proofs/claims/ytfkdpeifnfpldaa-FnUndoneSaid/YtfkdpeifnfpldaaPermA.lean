/- Contract: the program's IsPermutive. -/
import Derived.Test.YtfkdpeifnfpldaaPkC
import Derived.Test.YtfkdpeifnfpldaaPkM
namespace Go.Proofs.Ytfkdpeifnfpldaa
open Go.RowKit Go.Cm

/-- which letters were seen -/
def seenC (l : List Nat) : Array Value := #[.bool (decide (0 ∈ l)), .bool (decide (1 ∈ l)), .bool (decide (2 ∈ l))]

theorem seenC_at (l : List Nat) (y : Nat) (h : y < 3) : (seenC l)[y]? = some (.bool (decide (y ∈ l))) := by
  match y, h with
  | 0, _ => rfl
  | 1, _ => rfl
  | 2, _ => rfl
theorem seenC_size (l : List Nat) : (seenC l).size = 3 := rfl
theorem seenC_set (l : List Nat) (y : Nat) (h : y < (seenC l).size) : (seenC l).set y (.bool true) h = seenC (l ++ [y]) := by
  have h3 : y < 3 := h
  match y, h3 with
  | 0, _ => simp [seenC]
  | 1, _ => simp [seenC]
  | 2, _ => simp [seenC]

theorem letter_num {K : Nat} {o : ByteArray} (ha : areLet K o.data.toList = true) {q : Nat} (hq : q < o.size) :
    97 ≤ o[q].toNat ∧ o[q].toNat - 97 < K ∧ (o.data.toList.getD q 0).toNat - 97 = o[q].toNat - 97 := by
  have h1 : o.data.toList.getD q 0 = o[q] := by
    rw [List.getD_eq_getElem?_getD, List.getElem?_eq_getElem (by simpa using hq)]
    rfl
  have h2 : isLet K o[q] = true := by rw [← h1]; exact isLet_getD ha (by simpa using hq)
  simp only [isLet, Bool.and_eq_true, decide_eq_true_eq] at h2
  exact ⟨by omega, by omega, by rw [h1]⟩

set_option maxHeartbeats 1000000 in
theorem impl_IsPermutive_no (L W : Int) (o : ByteArray) (r : Bool) (w : World) (ho : o.size ≤ maxLen) (hc : codeOk L W o = false) :
    Calls Try.prog 36 #[.agg #[.int .i64 L, .int .i64 W, .string o], .bool r] w fun e w' => e = .returned (.bool false) ∧ Ext w w' := by
  go_enter Try.func36, Try.ntmps36
  go_wp2_with fail
  refine (impl_IsCode_any _ _ _ _ ho).mono ?_
  rintro e w1 ⟨rfl, hx⟩
  rw [hc]
  replace hx := (Ext.alloc _ _).trans hx
  go_wp2
  go_ret
  exact ⟨rfl, hx⟩

set_option maxRecDepth 100000 in
set_option maxHeartbeats 2000000 in
theorem impl_IsPermutive_yes (K n m : Nat) (o : ByteArray) (r : Bool) (w : World) (hn : n = m + 1) (hc : codeOk K n o = true) (hf : CodeFit K n o) :
    Calls Try.prog 36 #[.agg #[.int .i64 K, .int .i64 n, .string o], .bool r] w fun e w' => e = .returned (.bool (permB K m o r)) ∧ Ext w w' := by
  have ho : o.size ≤ maxLen := by have := hf.size; have := hf.le; unfold maxLen; omega
  have hk2 := hf.k2
  have hk3 := hf.k3
  have hn4 := hf.n4
  have hNK : K ^ m * K ≤ 27 := by have := hf.le; rwa [hn, Nat.pow_succ] at this
  have hos : o.size = K ^ m * K := by rw [hf.size, hn, Nat.pow_succ]
  have hpw : pw (K : Int) m = ((K ^ m : Nat) : Int) := pw_nat K m
  have e1 : (n : Int) - 1 = m := by omega
  have hN1 : 0 < K ^ m := Nat.pow_pos (by omega)
  have hN27 : K ^ m ≤ 27 := by
    have : K ^ m * 1 ≤ K ^ m * K := Nat.mul_le_mul_left _ (by omega)
    omega
  obtain ⟨N, hN⟩ : ∃ N, N = K ^ m := ⟨_, rfl⟩
  rw [← hN] at hpw hN1 hN27 hos hNK
  have HN := Lib.hid hN
  have HF := Lib.hid hf
  have HM := Lib.hid hn
  clear hN hf hn
  go_enter Try.func36, Try.ntmps36
  go_wp2_with fail
  refine (impl_IsCode_any _ _ _ _ ho).mono ?_
  rintro e w1 ⟨rfl, hx⟩
  rw [hc]
  have bo := (show Blk _ w.heap.size #[.int .i64 K, .int .i64 n, .string o] by (repeat (first | (refine Blk.mk' ?_; (simp; done)) | apply Blk.old))).ext hx
  replace hx := (Ext.alloc _ _).trans hx
  obtain ⟨c0, c1, c2, -, -, -⟩ := bo.c3
  go_wp2_with fail
  refine (impl_power_any K m _ (by omega) (by omega) (by omega) (by omega)).mono ?_
  rintro e w2 ⟨rfl, rfl⟩
  rw [hpw]
  clear hpw c0 c1 c2 e1
  go_wp2
  go_loopw [21] (fun i wr => ∃ k : Nat, k ≤ N ∧ i = .int .i64 k ∧ (∀ j, j < k → (rowL K N o r j K).Nodup) ∧ Ext w wr ∧ Blk wr w.heap.size #[.int .i64 K, .int .i64 n, .string o]) (fun i _ => N - (intOf i).toNat)
  case atStart => exact ⟨0, by omega, rfl, fun j hj => absurd hj (by omega), hx, bo⟩
  case round =>
    clear hx bo
    obtain ⟨k, hk, rfl, hall, hx, bo⟩ := hrel
    have HA := Lib.hid hall
    clear hall
    obtain ⟨c0, c1, c2, -, -, -⟩ := bo.c3
    by_cases hlt : k < N
    · obtain ⟨wo, rfl⟩ : ∃ wo : World, wo = wr := ⟨_, rfl⟩
      have hlw := bo.lt
      have hx' := Ext.alloced hx (.cells #[.bool false, .bool false, .bool false] 79)
      have bo' := bo.old (o := .cells #[.bool false, .bool false, .bool false] 79)
      have bz : Blk (wo.alloc (.cells #[.bool false, .bool false, .bool false] 79)) wo.heap.size (seenC (rowL K N o r k 0)) := by rw [show seenC (rowL K N o r k 0) = #[.bool false, .bool false, .bool false] by simp [seenC, rowL]]; (repeat (first | (refine Blk.mk' ?_; (simp; done)) | apply Blk.old))
      go_wp2
      obtain ⟨z, hz⟩ : ∃ z, z = wo.heap.size := ⟨_, rfl⟩
      rw [← hz] at bz hlw ⊢
      clear hx bo c0 c1 c2 hz
      go_loopw [27] (fun x wi => ∃ a : Nat, a ≤ K ∧ x = .int .i64 a ∧ (rowL K N o r k a).Nodup ∧ Ext w wi ∧ Blk wi w.heap.size #[.int .i64 K, .int .i64 n, .string o] ∧ Blk wi z (seenC (rowL K N o r k a))) (fun x _ => K - (intOf x).toNat)
      case atStart => exact ⟨0, by omega, rfl, by simp [rowL], hx', bo', bz⟩
      case round =>
        clear hx' bo' bz
        obtain ⟨a, hak, rfl, hnd, hx, bo, bz⟩ := hrel
        have HD := Lib.hid hnd
        clear hnd
        obtain ⟨c0, c1, c2, -, -, -⟩ := bo.c3
        by_cases hla : a < K
        · obtain ⟨q, hq⟩ : ∃ q, q = atL K N k a r := ⟨_, rfl⟩
          have hqs : q < o.size := by
            have := atL_lt (r := r) (K := K) (m := m) (i := k) (x := a) (by rw [← HN.out]; exact hlt) hla
            rw [← HN.out, ← hq, Nat.pow_succ, ← HN.out] at this
            omega
          obtain ⟨hb1, hb2, hb3⟩ := letter_num HF.out.lets hqs
          have hb := o[q].toNat_lt
          obtain ⟨y, hy⟩ : ∃ y, y = o[q].toNat - 97 := ⟨_, rfl⟩
          have ey : (o[q].toNat : Int) - 97 = (y : Int) := by omega
          have hy3 : y < 3 := by omega
          have hrs := rowL_succ K N o r k a
          rw [← hq, hb3, ← hy] at hrs
          obtain ⟨l, hl⟩ : ∃ l, l = rowL K N o r k a := ⟨_, rfl⟩
          rw [← hl] at hrs bz HD
          have cy := bz.cell y _ (seenC_at l y hy3)
          have fy := bz.frozen y
          have bad : y ∈ l → permB K m o r = false := by
            intro h
            refine permB_bad (i := k) (a := a) (by rw [← HN.out]; exact hlt) hla ?_
            rw [← HN.out, ← hq, hb3, ← hy, ← hl]
            exact h
          have HB := Lib.hid (And.intro bad (And.intro hrs hl))
          have m0 : (0 : Int) ≤ (k : Int) * (K : Int) := Int.mul_nonneg (by omega) (by omega)
          have m1 : (k : Int) * (K : Int) ≤ 27 := by
            have : k * K ≤ N * K := Nat.mul_le_mul_right _ (by omega)
            have h2 : ((k * K : Nat) : Int) ≤ 27 := by omega
            simpa using h2
          have m2 : (0 : Int) ≤ (a : Int) * (N : Int) := Int.mul_nonneg (by omega) (by omega)
          have m3 : (a : Int) * (N : Int) ≤ 81 := by
            have : a * N ≤ 3 * 27 := Nat.mul_le_mul (by omega) (by omega)
            have h2 : ((a * N : Nat) : Int) ≤ 81 := by omega
            simpa using h2
          clear bad hrs hl hb3 hb1 hb2 hy
          by_cases hyl : y ∈ l
          · have hd : decide (y ∈ l) = true := by simpa using hyl
            rw [hd] at cy
            cases r with
            | false =>
              have eq : (k : Int) * (K : Int) + (a : Int) = (q : Int) := by rw [hq]; simp [atL]
              clear hq
              go_wp2
              go_ret
              exact ⟨ret_bool (HB.out.1 hyl).symm, hx⟩
            | true =>
              have eq : (a : Int) * (N : Int) + (k : Int) = (q : Int) := by rw [hq]; simp [atL]
              clear hq
              go_wp2
              go_ret
              exact ⟨ret_bool (HB.out.1 hyl).symm, hx⟩
          · have hd : decide (y ∈ l) = false := by simpa using hyl
            rw [hd] at cy
            have bz' := bz.set (i := y) (by rw [seenC_size]; exact hy3) (.bool true)
            rw [seenC_set] at bz'
            have bo' := bo.other (b' := z) (i := y) (by omega) (.bool true)
            have hx' : Ext w (wr.setCell ⟨z, y, none⟩ (.bool true)) := Ext.stored hx (by show _ ≤ z; omega)
            have hnd : (l ++ [y]).Nodup := nodup_snoc.2 ⟨HD.out, hyl⟩
            have HD2 := Lib.hid hnd
            clear hnd
            cases r with
            | false =>
              have eq : (k : Int) * (K : Int) + (a : Int) = (q : Int) := by rw [hq]; simp [atL]
              clear hq
              go_wp2
              go_roundw
              case rel => exact ⟨a + 1, by omega, by go_num, by rw [HB.out.2.1]; exact HD2.out, hx', bo', by rw [HB.out.2.1]; exact bz'⟩
              case measure => simp [intOf]; omega
            | true =>
              have eq : (a : Int) * (N : Int) + (k : Int) = (q : Int) := by rw [hq]; simp [atL]
              clear hq
              go_wp2
              go_roundw
              case rel => exact ⟨a + 1, by omega, by go_num, by rw [HB.out.2.1]; exact HD2.out, hx', bo', by rw [HB.out.2.1]; exact bz'⟩
              case measure => simp [intOf]; omega
        · have haK : a = K := by omega
          subst haK
          go_wp2
          go_roundw
          case rel =>
            refine ⟨k + 1, by omega, by go_num, fun j hj => ?_, hx, bo⟩
            by_cases hjk : j < k
            · exact HA.out j hjk
            · rw [show j = k by omega]; exact HD.out
          case measure => simp [intOf]; omega
    · have hkN : k = N := by omega
      have hp : permB K m o r = true := permB_all (by have h := HA.out; rw [hkN, HN.out] at h; exact h)
      go_wp2
      go_ret
      exact ⟨ret_bool hp.symm, hx⟩
end Go.Proofs.Ytfkdpeifnfpldaa

/- Contracts: CountSources of both. -/
import Derived.Test.YtfkdpeifnfpldaaSrcB
import Derived.Test.YtfkdpeifnfpldaaSought
namespace Go.Proofs.Ytfkdpeifnfpldaa
open Go.RowKit Go.Cm

/-- the number of sources -/
def countOf (K n : Nat) (o s : ByteArray) : Nat := (countC K (K ^ (n - 1)) o s.data.toList).sum

set_option maxHeartbeats 1000000 in
theorem impl_CountSources_no (L W : Int) (o s : ByteArray) (w : World) (ho : o.size ≤ maxLen) (hs : s.size ≤ maxLen) (h : soughtOk L W o s = false) :
    Calls Try.prog 19 #[.agg #[.int .i64 L, .int .i64 W, .string o], .string s] w fun e w' => e = .returned (.int .i64 (-1)) ∧ Ext w w' := by
  go_enter Try.func19, Try.ntmps19
  go_wp2_with fail
  refine (impl_isSought_any _ _ _ _ _ ho hs).mono ?_
  rintro e w1 ⟨rfl, hx⟩
  rw [h]
  replace hx := (Ext.alloc _ _).trans hx
  go_wp2
  go_ret
  exact ⟨rfl, hx⟩

set_option maxHeartbeats 1000000 in
theorem impl_CountSources_yes (K n : Nat) (o s : ByteArray) (w : World) (h : soughtOk K n o s = true) (hf : CodeFit K n o) :
    Calls Try.prog 19 #[.agg #[.int .i64 K, .int .i64 n, .string o], .string s] w fun e w' => e = .returned (.int .i64 (countOf K n o s : Nat)) ∧ Ext w w' := by
  have ho : o.size ≤ maxLen := by have := hf.size; have := hf.le; unfold maxLen; omega
  have hs8 : s.size ≤ 8 := by unfold soughtOk at h; simp only [Bool.and_eq_true, decide_eq_true_eq] at h; exact h.2.2
  have hs : s.size ≤ maxLen := by unfold maxLen; omega
  go_enter Try.func19, Try.ntmps19
  go_wp2_with fail
  refine (impl_isSought_any _ _ _ _ _ ho hs).mono ?_
  rintro e w1 ⟨rfl, hx⟩
  rw [h]
  have bo := (show Blk _ w.heap.size #[.int .i64 K, .int .i64 n, .string o] by (repeat (first | (refine Blk.mk' ?_; (simp; done)) | apply Blk.old))).ext hx
  replace hx := (Ext.alloc _ _).trans hx
  obtain ⟨c0, c1, c2, -, -, -⟩ := bo.c3
  go_wp2_with fail
  refine (impl_countSources_any K n (n - 1) _ o s _ (by have := hf.n1; omega) rfl hf hs8).mono ?_
  rintro e w2 ⟨rfl, hx2⟩
  replace hx := hx.trans hx2
  clear hx2 c0 c1 c2 bo
  go_wp2
  go_ret
  exact ⟨rfl, hx⟩

set_option maxHeartbeats 1000000 in
theorem spec_CountSources_no (L W : Int) (o s : ByteArray) (w : World) (ho : o.size ≤ maxLen) (hs : s.size ≤ maxLen) (h : soughtOk L W o s = false) :
    Calls Try.prog 20 #[.agg #[.int .i64 L, .int .i64 W, .string o], .string s] w fun e w' => e = .returned (.int .i64 (-1)) ∧ Ext w w' := by
  go_enter Try.func20, Try.ntmps20
  go_wp2_with fail
  refine (spec_l12Fits_any _ _ _ _ _ ho hs).mono ?_
  rintro e w1 ⟨rfl, hx⟩
  rw [h]
  replace hx := (Ext.alloc _ _).trans hx
  go_wp2
  go_ret
  exact ⟨rfl, hx⟩

set_option maxHeartbeats 1000000 in
theorem spec_CountSources_yes (K n : Nat) (o s : ByteArray) (w : World) (h : soughtOk K n o s = true) (hf : CodeFit K n o) :
    Calls Try.prog 20 #[.agg #[.int .i64 K, .int .i64 n, .string o], .string s] w fun e w' => e = .returned (.int .i64 (countOf K n o s : Nat)) ∧ Ext w w' := by
  have ho : o.size ≤ maxLen := by have := hf.size; have := hf.le; unfold maxLen; omega
  have hs8 : s.size ≤ 8 := by unfold soughtOk at h; simp only [Bool.and_eq_true, decide_eq_true_eq] at h; exact h.2.2
  have hs : s.size ≤ maxLen := by unfold maxLen; omega
  have hNK : K ^ (n - 1) * K ≤ 27 := by
    have h1 := hf.le
    have h2 := hf.n1
    rw [show n = (n - 1) + 1 by omega, Nat.pow_succ] at h1
    exact h1
  have hN27 : K ^ (n - 1) ≤ 27 := by
    have h1 := hf.k2
    have h2 : K ^ (n - 1) * 1 ≤ K ^ (n - 1) * K := Nat.mul_le_mul_left _ (by omega)
    omega
  go_enter Try.func20, Try.ntmps20
  go_wp2_with fail
  refine (spec_l12Fits_any _ _ _ _ _ ho hs).mono ?_
  rintro e w1 ⟨rfl, hx⟩
  rw [h]
  have bo := (show Blk _ w.heap.size #[.int .i64 K, .int .i64 n, .string o] by (repeat (first | (refine Blk.mk' ?_; (simp; done)) | apply Blk.old))).ext hx
  replace hx := (Ext.alloc _ _).trans hx
  obtain ⟨c0, c1, c2, -, -, -⟩ := bo.c3
  go_wp2_with fail
  refine (spec_l12Counts_any K n (n - 1) _ o s _ (by have := hf.n1; omega) rfl hf hs8).mono ?_
  rintro e w2 ⟨g, cap, rfl, hown, hx2⟩
  replace hx := hx.trans hx2
  have hlen := countC_length K (K ^ (n - 1)) o s.data.toList
  have hbnd := countC_bnd (K := K) hNK o s.data.toList
  have hB := pow27_le (k := s.data.toList.length) (by simpa using hs8)
  obtain ⟨N, hN⟩ : ∃ N, N = K ^ (n - 1) := ⟨_, rfl⟩
  have hcount : countOf K n o s = (countC K N o s.data.toList).sum := by rw [hN]; rfl
  rw [← hN] at hlen hbnd hown hN27 ⊢
  obtain ⟨l, hl⟩ : ∃ l, l = countC K N o s.data.toList := ⟨_, rfl⟩
  rw [← hl] at hlen hbnd hown hcount
  have HCC := Lib.hid hcount
  obtain ⟨M, hM⟩ : ∃ M, M = 27 ^ s.data.toList.length := ⟨_, rfl⟩
  rw [← hM] at hbnd hB
  clear hx2 c0 c1 c2 bo hNK hcount hl hN hM
  go_wp2
  go_loop [5, 7] (fun v i => ∃ k : Nat, k ≤ N ∧ i = .int .i64 k ∧ v = .int .i64 (sumTo l k : Nat)) (fun _ i => N - (intOf i).toNat)
  case atStart => exact ⟨0, by omega, rfl, by simp [sumTo]⟩
  case round =>
    obtain ⟨k, hk, rfl, rfl⟩ := hrel
    by_cases hlt : k < N
    · have hc := hown.cell k (by rw [ncells_length, hlen]; exact hlt)
      rw [ncells_at _ _ (by rw [hlen]; exact hlt)] at hc
      have hs := sumTo_succ l k (by rw [hlen]; exact hlt)
      have hle := sumTo_le hbnd k
      have hy := hbnd k
      have hkM : k * M ≤ 27 * 282429536481 := Nat.mul_le_mul (by omega) hB
      obtain ⟨y, hyy⟩ : ∃ y, y = l.getD k 0 := ⟨_, rfl⟩
      obtain ⟨x, hx⟩ : ∃ x, x = sumTo l k := ⟨_, rfl⟩
      rw [← hyy] at hc hs hy
      rw [← hx] at hs hle ⊢
      have hxb : x ≤ 7625597484987 := by omega
      have HS := Lib.hid hs
      clear hs hyy hx hle hkM
      go_wp2
      go_round
      case rel => exact ⟨k + 1, by omega, by go_num, by rw [HS.out]; go_num⟩
      case measure => simp [intOf]; omega
    · have hkn : k = N := by omega
      subst hkn
      have e : sumTo l k = l.sum := by rw [← hlen]; exact sumTo_all l
      rw [e]
      go_wp2
      go_ret
      exact ⟨ret_int (by rw [HCC.out]), hx⟩
end Go.Proofs.Ytfkdpeifnfpldaa

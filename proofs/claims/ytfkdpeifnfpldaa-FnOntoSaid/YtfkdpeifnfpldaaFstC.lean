/- Contracts: FirstSource of both. -/
import Derived.Test.YtfkdpeifnfpldaaFstB
import Derived.Test.YtfkdpeifnfpldaaSought
namespace Go.Proofs.Ytfkdpeifnfpldaa
open Go.RowKit Go.Cm

/-- the least source -/
def firstS (K n : Nat) (o s : ByteArray) : Option (List UInt8) := srcL K n o s.data.toList (s.size + n - 1) []

set_option maxHeartbeats 1000000 in
theorem impl_FirstSource_no (L W : Int) (o s : ByteArray) (w : World) (ho : o.size ≤ maxLen) (hs : s.size ≤ maxLen) (h : soughtOk L W o s = false) :
    Calls Try.prog 12 #[.agg #[.int .i64 L, .int .i64 W, .string o], .string s] w fun e w' => e = .returned (srcV none) ∧ Ext w w' := by
  go_enter Try.func12, Try.ntmps12
  go_wp2_with fail
  refine (impl_isSought_any _ _ _ _ _ ho hs).mono ?_
  rintro e w1 ⟨rfl, hx⟩
  rw [h]
  replace hx := (Ext.alloc _ _).trans hx
  go_wp2
  go_ret2
  exact ⟨rfl, hx⟩

set_option maxHeartbeats 1000000 in
theorem impl_FirstSource_yes (K n : Nat) (o s : ByteArray) (w : World) (h : soughtOk K n o s = true) (hf : CodeFit K n o) :
    Calls Try.prog 12 #[.agg #[.int .i64 K, .int .i64 n, .string o], .string s] w fun e w' => e = .returned (srcV (firstS K n o s)) ∧ Ext w w' := by
  have ho : o.size ≤ maxLen := by have := hf.size; have := hf.le; unfold maxLen; omega
  have hs8 : s.size ≤ 8 := by unfold soughtOk at h; simp only [Bool.and_eq_true, decide_eq_true_eq] at h; exact h.2.2
  have hs : s.size ≤ maxLen := by unfold maxLen; omega
  have hcall := fun w5 => impl_source_any K n o s hf hs8 (s.size + n - 1) [] w5 (by have := hf.n1; simp; omega) rfl
  obtain ⟨r, hr⟩ : ∃ r, r = firstS K n o s := ⟨_, rfl⟩
  rw [← hr]
  have hcall : ∀ w5, Calls Try.prog 48 #[.agg #[.int .i64 K, .int .i64 n, .string o], .string s, .string ⟨#[]⟩] w5 fun e w' => e = .returned (.tuple #[.string (mkS (r.getD [])), .bool r.isSome]) ∧ Ext w5 w' := by rw [hr]; exact hcall
  have HC := Lib.hid hcall
  clear hcall hr
  go_enter Try.func12, Try.ntmps12
  go_wp2_with fail
  refine (impl_isSought_any _ _ _ _ _ ho hs).mono ?_
  rintro e w1 ⟨rfl, hx⟩
  rw [h]
  have bo := (show Blk _ w.heap.size #[.int .i64 K, .int .i64 n, .string o] by (repeat (first | (refine Blk.mk' ?_; (simp; done)) | apply Blk.old))).ext hx
  replace hx := (Ext.alloc _ _).trans hx
  obtain ⟨c0, c1, c2, -, -, -⟩ := bo.c3
  go_wp2_with fail
  refine (HC.out _).mono ?_
  rintro e w2 ⟨rfl, hx2⟩
  replace hx := hx.trans hx2
  clear hx2 c0 c1 c2 bo
  go_wp2
  go_ret2
  exact ⟨rfl, hx⟩

set_option maxHeartbeats 1000000 in
theorem spec_FirstSource_no (L W : Int) (o s : ByteArray) (w : World) (ho : o.size ≤ maxLen) (hs : s.size ≤ maxLen) (h : soughtOk L W o s = false) :
    Calls Try.prog 13 #[.agg #[.int .i64 L, .int .i64 W, .string o], .string s] w fun e w' => e = .returned (srcV none) ∧ Ext w w' := by
  go_enter Try.func13, Try.ntmps13
  go_wp2_with fail
  refine (spec_l12Fits_any _ _ _ _ _ ho hs).mono ?_
  rintro e w1 ⟨rfl, hx⟩
  rw [h]
  replace hx := (Ext.alloc _ _).trans hx
  go_wp2
  go_ret2
  exact ⟨rfl, hx⟩

set_option maxHeartbeats 1000000 in
theorem spec_FirstSource_yes (K n : Nat) (o s : ByteArray) (w : World) (h : soughtOk K n o s = true) (hf : CodeFit K n o) :
    Calls Try.prog 13 #[.agg #[.int .i64 K, .int .i64 n, .string o], .string s] w fun e w' => e = .returned (srcV (firstS K n o s)) ∧ Ext w w' := by
  have ho : o.size ≤ maxLen := by have := hf.size; have := hf.le; unfold maxLen; omega
  have hs8 : s.size ≤ 8 := by unfold soughtOk at h; simp only [Bool.and_eq_true, decide_eq_true_eq] at h; exact h.2.2
  have hs : s.size ≤ maxLen := by unfold maxLen; omega
  have hcall := fun w5 => spec_l12First_any K n o s hf hs8 (s.size + n - 1) [] w5 (by have := hf.n1; simp; omega) rfl
  have e0 : srcS K n o s.data.toList (s.size + n - 1) [] = firstS K n o s := by
    have h1 : okS K n o s.data.toList [] = true := by
      unfold okS
      have := hf.n1
      have e : decide (([] : List UInt8).length < n) = true := by simp; omega
      rw [e]; rfl
    unfold srcS firstS
    rw [h1]; rfl
  rw [e0] at hcall
  clear e0
  obtain ⟨r, hr⟩ : ∃ r, r = firstS K n o s := ⟨_, rfl⟩
  rw [← hr] at hcall ⊢
  have hcall : ∀ w5, Calls Try.prog 50 #[.agg #[.int .i64 K, .int .i64 n, .string o], .string s, .string ⟨#[]⟩] w5 fun e w' => e = .returned (.tuple #[.string (mkS (r.getD [])), .bool r.isSome]) ∧ Ext w5 w' := hcall
  have HC := Lib.hid hcall
  clear hcall hr
  go_enter Try.func13, Try.ntmps13
  go_wp2_with fail
  refine (spec_l12Fits_any _ _ _ _ _ ho hs).mono ?_
  rintro e w1 ⟨rfl, hx⟩
  rw [h]
  have bo := (show Blk _ w.heap.size #[.int .i64 K, .int .i64 n, .string o] by (repeat (first | (refine Blk.mk' ?_; (simp; done)) | apply Blk.old))).ext hx
  replace hx := (Ext.alloc _ _).trans hx
  obtain ⟨c0, c1, c2, -, -, -⟩ := bo.c3
  go_wp2_with fail
  refine (HC.out _).mono ?_
  rintro e w2 ⟨rfl, hx2⟩
  replace hx := hx.trans hx2
  clear hx2 c0 c1 c2 bo
  go_wp2
  go_ret2
  exact ⟨rfl, hx⟩
end Go.Proofs.Ytfkdpeifnfpldaa

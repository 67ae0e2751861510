/- Contracts: IsOnto and FirstOrphan of both. -/
import Derived.Test.YtfkdpeifnfpldaaOrphC
namespace Go.Proofs.Ytfkdpeifnfpldaa
open Go.RowKit Go.Cm

/-- a word of at most eight letters -/
def cut8 : Option (List UInt8) → Option (List UInt8)
  | some u => if u.length ≤ 8 then some u else none
  | none => none


set_option maxHeartbeats 1000000 in
theorem impl_IsOnto_no (L W : Int) (o : ByteArray) (w : World) (ho : o.size ≤ maxLen) (h : codeOk L W o = false) :
    Calls Try.prog 7 #[.agg #[.int .i64 L, .int .i64 W, .string o]] w fun e w' => e = .returned (.bool false) ∧ Ext w w' := by
  go_enter Try.func7, Try.ntmps7
  go_wp2_with fail
  with_reducible refine (impl_IsCode_any _ _ _ _ ho).mono ?_
  rintro e w1 ⟨rfl, hx⟩
  rw [h]
  replace hx := (Ext.alloc _ _).trans hx
  go_wp2
  go_ret
  exact ⟨rfl, hx⟩

set_option maxHeartbeats 1000000 in
theorem impl_IsOnto_yes (K n m N : Nat) (o : ByteArray) (w : World) (h : codeOk K n o = true) (hf : CodeFit K n o) (hn : n = m + 1) (hN : N = K ^ m) :
    Calls Try.prog 7 #[.agg #[.int .i64 K, .int .i64 n, .string o]] w fun e w' => e = .returned (.bool (!(orphL K N o).isSome)) ∧ Ext w w' := by
  have ho : o.size ≤ maxLen := by have := hf.size; have := hf.le; unfold maxLen; omega
  have hcall := fun w5 => impl_orphan_any K n m N o w5 hf hn hN
  obtain ⟨r, hr⟩ : ∃ r, r = orphL K N o := ⟨_, rfl⟩
  rw [← hr]
  have hcall : ∀ w5, Calls Try.prog 44 #[.agg #[.int .i64 K, .int .i64 n, .string o]] w5 fun e w' => e = .returned (.tuple #[.string (mkS (r.getD [])), .bool r.isSome]) ∧ Ext w5 w' := by rw [hr]; exact hcall
  obtain ⟨f, hff⟩ : ∃ f, f = r.isSome := ⟨_, rfl⟩
  obtain ⟨S, hS⟩ : ∃ S, S = mkS (r.getD []) := ⟨_, rfl⟩
  rw [← hff] at hcall ⊢
  rw [← hS] at hcall
  clear hff hS
  have HC := Lib.hid hcall
  clear hcall hr hn hN
  go_enter Try.func7, Try.ntmps7
  go_wp2_with fail
  with_reducible refine (impl_IsCode_any _ _ _ _ ho).mono ?_
  rintro e w1 ⟨rfl, hx⟩
  rw [h]
  have bo := (show Blk _ w.heap.size #[.int .i64 K, .int .i64 n, .string o] by (repeat (first | (refine Blk.mk' ?_; (simp; done)) | apply Blk.old))).ext hx
  replace hx := (Ext.alloc _ _).trans hx
  obtain ⟨c0, c1, c2, -, -, -⟩ := bo.c3
  go_wp2_with fail
  with_reducible refine (HC.out _).mono ?_
  rintro e w2 ⟨rfl, hx2⟩
  replace hx := hx.trans hx2
  clear hx2 c0 c1 c2 bo
  go_wp2
  go_ret
  exact ⟨rfl, hx⟩

set_option maxHeartbeats 1000000 in
theorem impl_FirstOrphan_no (L W : Int) (o : ByteArray) (w : World) (ho : o.size ≤ maxLen) (h : codeOk L W o = false) :
    Calls Try.prog 8 #[.agg #[.int .i64 L, .int .i64 W, .string o]] w fun e w' => e = .returned (srcV none) ∧ Ext w w' := by
  go_enter Try.func8, Try.ntmps8
  go_wp2_with fail
  with_reducible refine (impl_IsCode_any _ _ _ _ ho).mono ?_
  rintro e w1 ⟨rfl, hx⟩
  rw [h]
  replace hx := (Ext.alloc _ _).trans hx
  go_wp2
  go_ret2
  exact ⟨rfl, hx⟩

set_option maxHeartbeats 2000000 in
theorem impl_FirstOrphan_yes (K n m N : Nat) (o : ByteArray) (w : World) (h : codeOk K n o = true) (hf : CodeFit K n o) (hn : n = m + 1) (hN : N = K ^ m) :
    Calls Try.prog 8 #[.agg #[.int .i64 K, .int .i64 n, .string o]] w fun e w' => e = .returned (srcV (cut8 (orphL K N o))) ∧ Ext w w' := by
  have ho : o.size ≤ maxLen := by have := hf.size; have := hf.le; unfold maxLen; omega
  have hcall := fun w5 => impl_orphan_any K n m N o w5 hf hn hN
  obtain ⟨r, hr⟩ : ∃ r, r = orphL K N o := ⟨_, rfl⟩
  rw [← hr]
  have hcall : ∀ w5, Calls Try.prog 44 #[.agg #[.int .i64 K, .int .i64 n, .string o]] w5 fun e w' => e = .returned (srcV r) ∧ Ext w5 w' := by rw [hr]; exact hcall
  clear hr hn hN
  cases r with
  | none =>
    have hcall : ∀ w5, Calls Try.prog 44 #[.agg #[.int .i64 K, .int .i64 n, .string o]] w5 fun e w' => e = .returned (.tuple #[.string ⟨#[]⟩, .bool false]) ∧ Ext w5 w' := hcall
    have HC := Lib.hid hcall
    clear hcall
    go_enter Try.func8, Try.ntmps8
    go_wp2_with fail
    with_reducible refine (impl_IsCode_any _ _ _ _ ho).mono ?_
    rintro e w1 ⟨rfl, hx⟩
    rw [h]
    have bo := (show Blk _ w.heap.size #[.int .i64 K, .int .i64 n, .string o] by (repeat (first | (refine Blk.mk' ?_; (simp; done)) | apply Blk.old))).ext hx
    replace hx := (Ext.alloc _ _).trans hx
    obtain ⟨c0, c1, c2, -, -, -⟩ := bo.c3
    go_wp2_with fail
    with_reducible refine (HC.out _).mono ?_
    rintro e w2 ⟨rfl, hx2⟩
    replace hx := hx.trans hx2
    clear hx2 c0 c1 c2 bo
    go_wp2
    go_ret2
    exact ⟨rfl, hx⟩
  | some u =>
    obtain ⟨S, hS⟩ : ∃ S, S = mkS u := ⟨_, rfl⟩
    have hSz : S.size = u.length := by rw [hS, mkS_size]
    have hcall : ∀ w5, Calls Try.prog 44 #[.agg #[.int .i64 K, .int .i64 n, .string o]] w5 fun e w' => e = .returned (.tuple #[.string S, .bool true]) ∧ Ext w5 w' := by rw [hS]; exact hcall
    have HC := Lib.hid (And.intro hcall hS)
    clear hcall hS
    by_cases h8 : S.size ≤ 8
    · have hv : srcV (cut8 (some u)) = .tuple #[.string S, .bool true] := by
        show srcV (if u.length ≤ 8 then some u else none) = _
        rw [if_pos (by omega), HC.out.2]
        rfl
      rw [hv]
      clear hv hSz
      go_enter Try.func8, Try.ntmps8
      go_wp2_with fail
      with_reducible refine (impl_IsCode_any _ _ _ _ ho).mono ?_
      rintro e w1 ⟨rfl, hx⟩
      rw [h]
      have bo := (show Blk _ w.heap.size #[.int .i64 K, .int .i64 n, .string o] by (repeat (first | (refine Blk.mk' ?_; (simp; done)) | apply Blk.old))).ext hx
      replace hx := (Ext.alloc _ _).trans hx
      obtain ⟨c0, c1, c2, -, -, -⟩ := bo.c3
      go_wp2_with fail
      with_reducible refine (HC.out.1 _).mono ?_
      rintro e w2 ⟨rfl, hx2⟩
      replace hx := hx.trans hx2
      clear hx2 c0 c1 c2 bo
      go_wp2
      go_ret2
      exact ⟨rfl, hx⟩
    · have hv : srcV (cut8 (some u)) = .tuple #[.string ⟨#[]⟩, .bool false] := by
        show srcV (if u.length ≤ 8 then some u else none) = _
        rw [if_neg (by omega)]
        rfl
      rw [hv]
      clear hv hSz
      go_enter Try.func8, Try.ntmps8
      go_wp2_with fail
      with_reducible refine (impl_IsCode_any _ _ _ _ ho).mono ?_
      rintro e w1 ⟨rfl, hx⟩
      rw [h]
      have bo := (show Blk _ w.heap.size #[.int .i64 K, .int .i64 n, .string o] by (repeat (first | (refine Blk.mk' ?_; (simp; done)) | apply Blk.old))).ext hx
      replace hx := (Ext.alloc _ _).trans hx
      obtain ⟨c0, c1, c2, -, -, -⟩ := bo.c3
      go_wp2_with fail
      with_reducible refine (HC.out.1 _).mono ?_
      rintro e w2 ⟨rfl, hx2⟩
      replace hx := hx.trans hx2
      clear hx2 c0 c1 c2 bo
      go_wp2
      go_ret2
      exact ⟨rfl, hx⟩

set_option maxHeartbeats 1000000 in
theorem spec_IsOnto_no (L W : Int) (o : ByteArray) (w : World) (ho : o.size ≤ maxLen) (h : codeOk L W o = false) :
    Calls Try.prog 18 #[.agg #[.int .i64 L, .int .i64 W, .string o]] w fun e w' => e = .returned (.bool false) ∧ Ext w w' := by
  go_enter Try.func18, Try.ntmps18
  go_wp2_with fail
  with_reducible refine (spec_IsCode_any _ _ _ _ ho).mono ?_
  rintro e w1 ⟨rfl, hx⟩
  rw [h]
  replace hx := (Ext.alloc _ _).trans hx
  go_wp2
  go_ret
  exact ⟨rfl, hx⟩

set_option maxHeartbeats 1000000 in
theorem spec_IsOnto_yes (K n m N : Nat) (o : ByteArray) (w : World) (h : codeOk K n o = true) (hf : CodeFit K n o) (hn : n = m + 1) (hN : N = K ^ m) :
    Calls Try.prog 18 #[.agg #[.int .i64 K, .int .i64 n, .string o]] w fun e w' => e = .returned (.bool (!(orphL K N o).isSome)) ∧ Ext w w' := by
  have ho : o.size ≤ maxLen := by have := hf.size; have := hf.le; unfold maxLen; omega
  have hcall := fun w5 => spec_l12Orphan_any K n m N o w5 hf hn hN
  obtain ⟨r, hr⟩ : ∃ r, r = orphL K N o := ⟨_, rfl⟩
  rw [← hr]
  have hcall : ∀ w5, Calls Try.prog 45 #[.agg #[.int .i64 K, .int .i64 n, .string o]] w5 fun e w' => e = .returned (.tuple #[.string (mkS (r.getD [])), .bool r.isSome]) ∧ Ext w5 w' := by rw [hr]; exact hcall
  obtain ⟨f, hff⟩ : ∃ f, f = r.isSome := ⟨_, rfl⟩
  obtain ⟨S, hS⟩ : ∃ S, S = mkS (r.getD []) := ⟨_, rfl⟩
  rw [← hff] at hcall ⊢
  rw [← hS] at hcall
  clear hff hS
  have HC := Lib.hid hcall
  clear hcall hr hn hN
  go_enter Try.func18, Try.ntmps18
  go_wp2_with fail
  with_reducible refine (spec_IsCode_any _ _ _ _ ho).mono ?_
  rintro e w1 ⟨rfl, hx⟩
  rw [h]
  have bo := (show Blk _ w.heap.size #[.int .i64 K, .int .i64 n, .string o] by (repeat (first | (refine Blk.mk' ?_; (simp; done)) | apply Blk.old))).ext hx
  replace hx := (Ext.alloc _ _).trans hx
  obtain ⟨c0, c1, c2, -, -, -⟩ := bo.c3
  go_wp2_with fail
  with_reducible refine (HC.out _).mono ?_
  rintro e w2 ⟨rfl, hx2⟩
  replace hx := hx.trans hx2
  clear hx2 c0 c1 c2 bo
  go_wp2
  go_ret
  exact ⟨rfl, hx⟩

set_option maxHeartbeats 1000000 in
theorem spec_FirstOrphan_no (L W : Int) (o : ByteArray) (w : World) (ho : o.size ≤ maxLen) (h : codeOk L W o = false) :
    Calls Try.prog 9 #[.agg #[.int .i64 L, .int .i64 W, .string o]] w fun e w' => e = .returned (srcV none) ∧ Ext w w' := by
  go_enter Try.func9, Try.ntmps9
  go_wp2_with fail
  with_reducible refine (spec_IsCode_any _ _ _ _ ho).mono ?_
  rintro e w1 ⟨rfl, hx⟩
  rw [h]
  replace hx := (Ext.alloc _ _).trans hx
  go_wp2
  go_ret2
  exact ⟨rfl, hx⟩

set_option maxHeartbeats 2000000 in
theorem spec_FirstOrphan_yes (K n m N : Nat) (o : ByteArray) (w : World) (h : codeOk K n o = true) (hf : CodeFit K n o) (hn : n = m + 1) (hN : N = K ^ m) :
    Calls Try.prog 9 #[.agg #[.int .i64 K, .int .i64 n, .string o]] w fun e w' => e = .returned (srcV (cut8 (orphL K N o))) ∧ Ext w w' := by
  have ho : o.size ≤ maxLen := by have := hf.size; have := hf.le; unfold maxLen; omega
  have hcall := fun w5 => spec_l12Orphan_any K n m N o w5 hf hn hN
  obtain ⟨r, hr⟩ : ∃ r, r = orphL K N o := ⟨_, rfl⟩
  rw [← hr]
  have hcall : ∀ w5, Calls Try.prog 45 #[.agg #[.int .i64 K, .int .i64 n, .string o]] w5 fun e w' => e = .returned (srcV r) ∧ Ext w5 w' := by rw [hr]; exact hcall
  clear hr hn hN
  cases r with
  | none =>
    have hcall : ∀ w5, Calls Try.prog 45 #[.agg #[.int .i64 K, .int .i64 n, .string o]] w5 fun e w' => e = .returned (.tuple #[.string ⟨#[]⟩, .bool false]) ∧ Ext w5 w' := hcall
    have HC := Lib.hid hcall
    clear hcall
    go_enter Try.func9, Try.ntmps9
    go_wp2_with fail
    with_reducible refine (spec_IsCode_any _ _ _ _ ho).mono ?_
    rintro e w1 ⟨rfl, hx⟩
    rw [h]
    have bo := (show Blk _ w.heap.size #[.int .i64 K, .int .i64 n, .string o] by (repeat (first | (refine Blk.mk' ?_; (simp; done)) | apply Blk.old))).ext hx
    replace hx := (Ext.alloc _ _).trans hx
    obtain ⟨c0, c1, c2, -, -, -⟩ := bo.c3
    go_wp2_with fail
    with_reducible refine (HC.out _).mono ?_
    rintro e w2 ⟨rfl, hx2⟩
    replace hx := hx.trans hx2
    clear hx2 c0 c1 c2 bo
    go_wp2
    go_ret2
    exact ⟨rfl, hx⟩
  | some u =>
    obtain ⟨S, hS⟩ : ∃ S, S = mkS u := ⟨_, rfl⟩
    have hSz : S.size = u.length := by rw [hS, mkS_size]
    have hcall : ∀ w5, Calls Try.prog 45 #[.agg #[.int .i64 K, .int .i64 n, .string o]] w5 fun e w' => e = .returned (.tuple #[.string S, .bool true]) ∧ Ext w5 w' := by rw [hS]; exact hcall
    have HC := Lib.hid (And.intro hcall hS)
    clear hcall hS
    by_cases h8 : S.size ≤ 8
    · have hv : srcV (cut8 (some u)) = .tuple #[.string S, .bool true] := by
        show srcV (if u.length ≤ 8 then some u else none) = _
        rw [if_pos (by omega), HC.out.2]
        rfl
      rw [hv]
      clear hv hSz
      go_enter Try.func9, Try.ntmps9
      go_wp2_with fail
      with_reducible refine (spec_IsCode_any _ _ _ _ ho).mono ?_
      rintro e w1 ⟨rfl, hx⟩
      rw [h]
      have bo := (show Blk _ w.heap.size #[.int .i64 K, .int .i64 n, .string o] by (repeat (first | (refine Blk.mk' ?_; (simp; done)) | apply Blk.old))).ext hx
      replace hx := (Ext.alloc _ _).trans hx
      obtain ⟨c0, c1, c2, -, -, -⟩ := bo.c3
      go_wp2_with fail
      with_reducible refine (HC.out.1 _).mono ?_
      rintro e w2 ⟨rfl, hx2⟩
      replace hx := hx.trans hx2
      clear hx2 c0 c1 c2 bo
      go_wp2
      go_ret2
      exact ⟨rfl, hx⟩
    · have hv : srcV (cut8 (some u)) = .tuple #[.string ⟨#[]⟩, .bool false] := by
        show srcV (if u.length ≤ 8 then some u else none) = _
        rw [if_neg (by omega)]
        rfl
      rw [hv]
      clear hv hSz
      go_enter Try.func9, Try.ntmps9
      go_wp2_with fail
      with_reducible refine (spec_IsCode_any _ _ _ _ ho).mono ?_
      rintro e w1 ⟨rfl, hx⟩
      rw [h]
      have bo := (show Blk _ w.heap.size #[.int .i64 K, .int .i64 n, .string o] by (repeat (first | (refine Blk.mk' ?_; (simp; done)) | apply Blk.old))).ext hx
      replace hx := (Ext.alloc _ _).trans hx
      obtain ⟨c0, c1, c2, -, -, -⟩ := bo.c3
      go_wp2_with fail
      with_reducible refine (HC.out.1 _).mono ?_
      rintro e w2 ⟨rfl, hx2⟩
      replace hx := hx.trans hx2
      clear hx2 c0 c1 c2 bo
      go_wp2
      go_ret2
      exact ⟨rfl, hx⟩
end Go.Proofs.Ytfkdpeifnfpldaa

/- Contracts: UndoingCode of both. -/
import Derived.Test.YtfkdpeifnfpldaaUndoB
import Derived.Test.YtfkdpeifnfpldaaPkC
namespace Go.Proofs.Ytfkdpeifnfpldaa
open Go.RowKit Go.Cm

/-- the first place at which a code undoes another one, and the code's letters -/
def undoAll (K n m : Nat) (o : ByteArray) : Option (Nat × List UInt8) := firstOf (n + m - 1) fun a => (undoL K n m a o).map fun t => (a, t)
def undOk (L W m : Int) (o : ByteArray) : Bool := codeOk L W o && (decide (1 ≤ m) && (decide (m ≤ 4) && decide (pw L m ≤ 27)))
def undoAny (L W m : Int) (o : ByteArray) : Option (Nat × List UInt8) := if undOk L W m o = true then undoAll L.toNat W.toNat m.toNat o else none
/-- what is returned -/
def undoRV (L m : Int) (r : Option (Nat × List UInt8)) : Value := match r with
  | none => .tuple #[.agg #[.int .i64 0, .int .i64 0, .string ⟨#[]⟩], .int .i64 0, .bool false]
  | some (a, t) => .tuple #[.agg #[.int .i64 L, .int .i64 m, .string (mkS t)], .int .i64 a, .bool true]

/-- an undoing code's parts -/
theorem undOk_parts {L W m : Int} {o : ByteArray} (h : undOk L W m o = true) : ∃ K n k : Nat, L = K ∧ W = n ∧ m = k ∧ CodeFit K n o ∧ codeOk K n o = true ∧ 1 ≤ k ∧ k ≤ 4 ∧ K ^ k ≤ 27 := by
  unfold undOk at h
  simp only [Bool.and_eq_true, decide_eq_true_eq] at h
  obtain ⟨hc, h1, h4, h27⟩ := h
  have hc' := hc
  obtain ⟨K, n, rfl, rfl, hf⟩ := codeFit_of hc
  obtain ⟨k, rfl⟩ := Int.eq_ofNat_of_zero_le (show 0 ≤ m by omega)
  rw [pw_nat] at h27
  exact ⟨K, n, k, rfl, rfl, rfl, hf, hc', by omega, by omega, by omega⟩

set_option maxHeartbeats 2000000 in
theorem impl_UndoingCode_no (L W m : Int) (o : ByteArray) (w : World) (ho : o.size ≤ maxLen) (h : undOk L W m o = false) :
    Calls Try.prog 26 #[.agg #[.int .i64 L, .int .i64 W, .string o], .int .i64 m] w fun e w' => e = .returned (undoRV L m none) ∧ Ext w w' := by
  cases hc : codeOk L W o with
  | false =>
    clear h
    go_enter Try.func26, Try.ntmps26
    go_wp2_with fail
    with_reducible refine (impl_IsCode_any _ _ _ _ ho).mono ?_
    rintro e w1 ⟨rfl, hx⟩
    rw [hc]
    have br := (show Blk _ (w.heap.size + 1) #[.int .i64 0, .int .i64 0, .string ⟨#[]⟩] by (repeat (first | (refine Blk.mk' ?_; (simp; done)) | apply Blk.old))).ext hx
    replace hx : Ext w w1 := Ext.trans (by (repeat (first | exact (Ext.refl w) | exact Ext.refl _ | exact Ext.alloc _ _ | refine Ext.alloced ?_ _ | (refine Ext.stored ?_ ?_; rotate_left; (· (first | (show _ ≤ _; omega) | (simp; done) | (simp; omega))))))) hx
    obtain ⟨r0, r1, r2, f0, f1, f2⟩ := br.c3
    go_wp2
    refine bodyPost_ret (v := .tuple #[.agg #[.int .i64 0, .int .i64 0, .string ⟨#[]⟩], .int .i64 0, .bool false]) ?_ rfl ⟨rfl, by (repeat (first | exact hx | exact Ext.refl _ | exact Ext.alloc _ _ | refine Ext.alloced ?_ _ | (refine Ext.stored ?_ ?_; rotate_left; (· (first | (show _ ≤ _; omega) | (simp; done) | (simp; omega))))))⟩
    simp [results, Try.results26, go_sem, r0, r1, r2]
  | true =>
    obtain ⟨K, n, rfl, rfl, hf⟩ := codeFit_of hc
    have hk2 := hf.k2
    have hk3 := hf.k3
    have hm : ¬ (1 ≤ m ∧ m ≤ 4 ∧ pw K m ≤ 27) := by unfold undOk at h; rw [hc] at h; simp at h; intro ⟨a, b, c⟩; have := h a b; omega
    have HC := Lib.hid hc
    clear h hc
    by_cases h1 : 1 ≤ m
    · by_cases h4 : m ≤ 4
      · have h27 : 27 < pw K m := by omega
        have hd1 : decide (m < 1) = false := by simp; omega
        have hd2 : decide (4 < m) = false := by simp; omega
        have hd3 : decide (27 < pw (K : Int) m) = true := by simpa using h27
        clear hm
        go_enter Try.func26, Try.ntmps26
        go_wp2_with fail
        with_reducible refine (impl_IsCode_any _ _ _ _ ho).mono ?_
        rintro e w1 ⟨rfl, hx⟩
        rw [HC.out]
        have br := (show Blk _ (w.heap.size + 1) #[.int .i64 0, .int .i64 0, .string ⟨#[]⟩] by (repeat (first | (refine Blk.mk' ?_; (simp; done)) | apply Blk.old))).ext hx
        have bo := (show Blk _ w.heap.size #[.int .i64 K, .int .i64 n, .string o] by (repeat (first | (refine Blk.mk' ?_; (simp; done)) | apply Blk.old))).ext hx
        replace hx : Ext w w1 := Ext.trans (by (repeat (first | exact (Ext.refl w) | exact Ext.refl _ | exact Ext.alloc _ _ | refine Ext.alloced ?_ _ | (refine Ext.stored ?_ ?_; rotate_left; (· (first | (show _ ≤ _; omega) | (simp; done) | (simp; omega))))))) hx
        obtain ⟨c0, c1, c2, -, -, -⟩ := bo.c3
        obtain ⟨r0, r1, r2, f0, f1, f2⟩ := br.c3
        go_wp2_with fail
        with_reducible refine (impl_power_any _ _ _ (by omega) (by omega) (by omega) (by omega)).mono ?_
        rintro e w2 ⟨rfl, rfl⟩
        go_wp2
        refine bodyPost_ret (v := .tuple #[.agg #[.int .i64 0, .int .i64 0, .string ⟨#[]⟩], .int .i64 0, .bool false]) ?_ rfl ⟨rfl, by (repeat (first | exact hx | exact Ext.refl _ | exact Ext.alloc _ _ | refine Ext.alloced ?_ _ | (refine Ext.stored ?_ ?_; rotate_left; (· (first | (show _ ≤ _; omega) | (simp; done) | (simp; omega))))))⟩
        simp [results, Try.results26, go_sem, r0, r1, r2]
      · have hd1 : decide (m < 1) = false := by simp; omega
        have hd2 : decide (4 < m) = true := by simp; omega
        clear hm
        go_enter Try.func26, Try.ntmps26
        go_wp2_with fail
        with_reducible refine (impl_IsCode_any _ _ _ _ ho).mono ?_
        rintro e w1 ⟨rfl, hx⟩
        rw [HC.out]
        have br := (show Blk _ (w.heap.size + 1) #[.int .i64 0, .int .i64 0, .string ⟨#[]⟩] by (repeat (first | (refine Blk.mk' ?_; (simp; done)) | apply Blk.old))).ext hx
        have bo := (show Blk _ w.heap.size #[.int .i64 K, .int .i64 n, .string o] by (repeat (first | (refine Blk.mk' ?_; (simp; done)) | apply Blk.old))).ext hx
        replace hx : Ext w w1 := Ext.trans (by (repeat (first | exact (Ext.refl w) | exact Ext.refl _ | exact Ext.alloc _ _ | refine Ext.alloced ?_ _ | (refine Ext.stored ?_ ?_; rotate_left; (· (first | (show _ ≤ _; omega) | (simp; done) | (simp; omega))))))) hx
        obtain ⟨c0, c1, c2, -, -, -⟩ := bo.c3
        obtain ⟨r0, r1, r2, f0, f1, f2⟩ := br.c3
        go_wp2
        refine bodyPost_ret (v := .tuple #[.agg #[.int .i64 0, .int .i64 0, .string ⟨#[]⟩], .int .i64 0, .bool false]) ?_ rfl ⟨rfl, by (repeat (first | exact hx | exact Ext.refl _ | exact Ext.alloc _ _ | refine Ext.alloced ?_ _ | (refine Ext.stored ?_ ?_; rotate_left; (· (first | (show _ ≤ _; omega) | (simp; done) | (simp; omega))))))⟩
        simp [results, Try.results26, go_sem, r0, r1, r2]
    · have hd1 : decide (m < 1) = true := by simp; omega
      clear hm
      go_enter Try.func26, Try.ntmps26
      go_wp2_with fail
      with_reducible refine (impl_IsCode_any _ _ _ _ ho).mono ?_
      rintro e w1 ⟨rfl, hx⟩
      rw [HC.out]
      have br := (show Blk _ (w.heap.size + 1) #[.int .i64 0, .int .i64 0, .string ⟨#[]⟩] by (repeat (first | (refine Blk.mk' ?_; (simp; done)) | apply Blk.old))).ext hx
      have bo := (show Blk _ w.heap.size #[.int .i64 K, .int .i64 n, .string o] by (repeat (first | (refine Blk.mk' ?_; (simp; done)) | apply Blk.old))).ext hx
      replace hx : Ext w w1 := Ext.trans (by (repeat (first | exact (Ext.refl w) | exact Ext.refl _ | exact Ext.alloc _ _ | refine Ext.alloced ?_ _ | (refine Ext.stored ?_ ?_; rotate_left; (· (first | (show _ ≤ _; omega) | (simp; done) | (simp; omega))))))) hx
      obtain ⟨c0, c1, c2, -, -, -⟩ := bo.c3
      obtain ⟨r0, r1, r2, f0, f1, f2⟩ := br.c3
      go_wp2
      refine bodyPost_ret (v := .tuple #[.agg #[.int .i64 0, .int .i64 0, .string ⟨#[]⟩], .int .i64 0, .bool false]) ?_ rfl ⟨rfl, by (repeat (first | exact hx | exact Ext.refl _ | exact Ext.alloc _ _ | refine Ext.alloced ?_ _ | (refine Ext.stored ?_ ?_; rotate_left; (· (first | (show _ ≤ _; omega) | (simp; done) | (simp; omega))))))⟩
      simp [results, Try.results26, go_sem, r0, r1, r2]

set_option maxHeartbeats 2000000 in
theorem spec_UndoingCode_no (L W m : Int) (o : ByteArray) (w : World) (ho : o.size ≤ maxLen) (h : undOk L W m o = false) :
    Calls Try.prog 27 #[.agg #[.int .i64 L, .int .i64 W, .string o], .int .i64 m] w fun e w' => e = .returned (undoRV L m none) ∧ Ext w w' := by
  cases hc : codeOk L W o with
  | false =>
    clear h
    go_enter Try.func27, Try.ntmps27
    go_wp2_with fail
    with_reducible refine (spec_IsCode_any _ _ _ _ ho).mono ?_
    rintro e w1 ⟨rfl, hx⟩
    rw [hc]
    have br := (show Blk _ (w.heap.size + 1) #[.int .i64 0, .int .i64 0, .string ⟨#[]⟩] by (repeat (first | (refine Blk.mk' ?_; (simp; done)) | apply Blk.old))).ext hx
    replace hx : Ext w w1 := Ext.trans (by (repeat (first | exact (Ext.refl w) | exact Ext.refl _ | exact Ext.alloc _ _ | refine Ext.alloced ?_ _ | (refine Ext.stored ?_ ?_; rotate_left; (· (first | (show _ ≤ _; omega) | (simp; done) | (simp; omega))))))) hx
    obtain ⟨r0, r1, r2, f0, f1, f2⟩ := br.c3
    go_wp2
    refine bodyPost_ret (v := .tuple #[.agg #[.int .i64 0, .int .i64 0, .string ⟨#[]⟩], .int .i64 0, .bool false]) ?_ rfl ⟨rfl, by (repeat (first | exact hx | exact Ext.refl _ | exact Ext.alloc _ _ | refine Ext.alloced ?_ _ | (refine Ext.stored ?_ ?_; rotate_left; (· (first | (show _ ≤ _; omega) | (simp; done) | (simp; omega))))))⟩
    simp [results, Try.results27, go_sem, r0, r1, r2]
  | true =>
    obtain ⟨K, n, rfl, rfl, hf⟩ := codeFit_of hc
    have hk2 := hf.k2
    have hk3 := hf.k3
    have hm : ¬ (1 ≤ m ∧ m ≤ 4 ∧ pw K m ≤ 27) := by unfold undOk at h; rw [hc] at h; simp at h; intro ⟨a, b, c⟩; have := h a b; omega
    have HC := Lib.hid hc
    clear h hc
    by_cases h14 : 1 ≤ m ∧ m ≤ 4
    · have h27 : 27 < pw K m := by omega
      have hd3 : decide (27 < pw (K : Int) m) = true := by simpa using h27
      obtain ⟨h1, h4⟩ := h14
      clear hm
      go_enter Try.func27, Try.ntmps27
      go_wp2_with fail
      with_reducible refine (spec_IsCode_any _ _ _ _ ho).mono ?_
      rintro e w1 ⟨rfl, hx⟩
      rw [HC.out]
      have br := (show Blk _ (w.heap.size + 1) #[.int .i64 0, .int .i64 0, .string ⟨#[]⟩] by (repeat (first | (refine Blk.mk' ?_; (simp; done)) | apply Blk.old))).ext hx
      have bo := (show Blk _ w.heap.size #[.int .i64 K, .int .i64 n, .string o] by (repeat (first | (refine Blk.mk' ?_; (simp; done)) | apply Blk.old))).ext hx
      replace hx : Ext w w1 := Ext.trans (by (repeat (first | exact (Ext.refl w) | exact Ext.refl _ | exact Ext.alloc _ _ | refine Ext.alloced ?_ _ | (refine Ext.stored ?_ ?_; rotate_left; (· (first | (show _ ≤ _; omega) | (simp; done) | (simp; omega))))))) hx
      obtain ⟨c0, c1, c2, -, -, -⟩ := bo.c3
      obtain ⟨r0, r1, r2, f0, f1, f2⟩ := br.c3
      go_wp2_with fail
      with_reducible refine (spec_l1In_yes m 1 4 _ h1 h4).mono ?_
      rintro e w2 ⟨rfl, rfl⟩
      go_wp2_with fail
      with_reducible refine (spec_l11Power_any _ _ _ (by omega) (by omega) (by omega) (by omega)).mono ?_
      rintro e w2 ⟨rfl, rfl⟩
      go_wp2
      refine bodyPost_ret (v := .tuple #[.agg #[.int .i64 0, .int .i64 0, .string ⟨#[]⟩], .int .i64 0, .bool false]) ?_ rfl ⟨rfl, by (repeat (first | exact hx | exact Ext.refl _ | exact Ext.alloc _ _ | refine Ext.alloced ?_ _ | (refine Ext.stored ?_ ?_; rotate_left; (· (first | (show _ ≤ _; omega) | (simp; done) | (simp; omega))))))⟩
      simp [results, Try.results27, go_sem, r0, r1, r2]
    · have H14 := Lib.hid h14
      clear hm h14
      go_enter Try.func27, Try.ntmps27
      go_wp2_with fail
      with_reducible refine (spec_IsCode_any _ _ _ _ ho).mono ?_
      rintro e w1 ⟨rfl, hx⟩
      rw [HC.out]
      have br := (show Blk _ (w.heap.size + 1) #[.int .i64 0, .int .i64 0, .string ⟨#[]⟩] by (repeat (first | (refine Blk.mk' ?_; (simp; done)) | apply Blk.old))).ext hx
      have bo := (show Blk _ w.heap.size #[.int .i64 K, .int .i64 n, .string o] by (repeat (first | (refine Blk.mk' ?_; (simp; done)) | apply Blk.old))).ext hx
      replace hx : Ext w w1 := Ext.trans (by (repeat (first | exact (Ext.refl w) | exact Ext.refl _ | exact Ext.alloc _ _ | refine Ext.alloced ?_ _ | (refine Ext.stored ?_ ?_; rotate_left; (· (first | (show _ ≤ _; omega) | (simp; done) | (simp; omega))))))) hx
      obtain ⟨c0, c1, c2, -, -, -⟩ := bo.c3
      obtain ⟨r0, r1, r2, f0, f1, f2⟩ := br.c3
      go_wp2_with fail
      with_reducible refine (spec_l1In_no m 1 4 _ (by have := H14.out; omega)).mono ?_
      rintro e w2 ⟨rfl, rfl⟩
      go_wp2
      refine bodyPost_ret (v := .tuple #[.agg #[.int .i64 0, .int .i64 0, .string ⟨#[]⟩], .int .i64 0, .bool false]) ?_ rfl ⟨rfl, by (repeat (first | exact hx | exact Ext.refl _ | exact Ext.alloc _ _ | refine Ext.alloced ?_ _ | (refine Ext.stored ?_ ?_; rotate_left; (· (first | (show _ ≤ _; omega) | (simp; done) | (simp; omega))))))⟩
      simp [results, Try.results27, go_sem, r0, r1, r2]

set_option maxRecDepth 100000 in
set_option maxHeartbeats 2000000 in
theorem impl_UndoingCode_yes (K n m : Nat) (o : ByteArray) (w : World) (hf : CodeFit K n o) (hcd : codeOk K n o = true) (hm1 : 1 ≤ m) (hm4 : m ≤ 4) (hm27 : K ^ m ≤ 27) :
    Calls Try.prog 26 #[.agg #[.int .i64 K, .int .i64 n, .string o], .int .i64 m] w fun e w' => e = .returned (undoRV K m (undoAll K n m o)) ∧ Ext w w' := by
  have hk2 := hf.k2
  have hk3 := hf.k3
  have hn1 := hf.n1
  have hn4 := hf.n4
  have ho : o.size ≤ maxLen := by have := hf.size; have := hf.le; unfold maxLen; omega
  have hpw : pw (K : Int) (m : Int) ≤ 27 := by rw [pw_nat]; omega
  have hd1 : decide ((m : Int) < 1) = false := by simp; omega
  have hd2 : decide (4 < (m : Int)) = false := by simp; omega
  have hd3 : decide (27 < pw (K : Int) m) = false := by simp; omega
  obtain ⟨d, hd⟩ : ∃ d, d = n + m - 1 := ⟨_, rfl⟩
  have hdi : (n : Int) + (m : Int) - 1 = (d : Int) := by omega
  have hd16 : d ≤ 7 := by omega
  obtain ⟨r, hr⟩ : ∃ r, r = undoAll K n m o := ⟨_, rfl⟩
  rw [← hr]
  obtain ⟨F, hF⟩ : ∃ F : Nat → Option (Nat × List UInt8), F = fun a => (undoL K n m a o).map fun t => (a, t) := ⟨_, rfl⟩
  have hr' : r = firstOf d F := by rw [hr, hF, hd]; rfl
  have HC := Lib.hid hcd
  have HF := Lib.hid (And.intro hF (And.intro hr' hd))
  clear hr hF hr' hd hpw hcd
  go_enter Try.func26, Try.ntmps26
  go_wp2_with fail
  with_reducible refine (impl_IsCode_any _ _ _ _ ho).mono ?_
  rintro e w1 ⟨rfl, hx⟩
  rw [HC.out]
  have br := (show Blk _ (w.heap.size + 1) #[.int .i64 0, .int .i64 0, .string ⟨#[]⟩] by (repeat (first | (refine Blk.mk' ?_; (simp; done)) | apply Blk.old))).ext hx
  have bo := (show Blk _ w.heap.size #[.int .i64 K, .int .i64 n, .string o] by (repeat (first | (refine Blk.mk' ?_; (simp; done)) | apply Blk.old))).ext hx
  replace hx : Ext w w1 := Ext.trans (by (repeat (first | exact (Ext.refl w) | exact Ext.refl _ | exact Ext.alloc _ _ | refine Ext.alloced ?_ _ | (refine Ext.stored ?_ ?_; rotate_left; (· (first | (show _ ≤ _; omega) | (simp; done) | (simp; omega))))))) hx
  obtain ⟨c0, c1, c2, -, -, -⟩ := bo.c3
  obtain ⟨r0, r1, r2, f0, f1, f2⟩ := br.c3
  go_wp2_with fail
  with_reducible refine (impl_power_any _ _ _ (by omega) (by omega) (by omega) (by omega)).mono ?_
  rintro e w2 ⟨rfl, rfl⟩
  go_wp2
  go_loopw [34] (fun i wr => ∃ a : Nat, a ≤ d ∧ i = .int .i64 a ∧ NoneTo F a ∧ Ext w wr ∧ Blk wr w.heap.size #[.int .i64 K, .int .i64 n, .string o] ∧ Blk wr (w.heap.size + 1) #[.int .i64 0, .int .i64 0, .string ⟨#[]⟩]) (fun i _ => d - (intOf i).toNat)
  case atStart => exact ⟨0, by omega, rfl, NoneTo.zero F, hx, bo, br⟩
  case round =>
    clear hx bo br c0 c1 c2 r0 r1 r2 f0 f1 f2
    obtain ⟨a, ha, rfl, hno, hx, bo, br⟩ := hrel
    obtain ⟨c0, c1, c2, -, -, -⟩ := bo.c3
    by_cases hlt : a < d
    · have hcall := fun w => impl_undoing_any K n m a o w hf hm1 hm4 hm27 (by have := HF.out.2.2; omega)
      cases hq : undoL K n m a o with
      | none =>
        rw [hq] at hcall
        have hcall : ∀ w, Calls Try.prog 66 #[.agg #[.int .i64 K, .int .i64 n, .string o], .int .i64 m, .int .i64 a] w fun e w' => e = .returned (.tuple #[.agg #[.int .i64 0, .int .i64 0, .string ⟨#[]⟩], .bool false]) ∧ Ext w w' := hcall
        have HQ := Lib.hid (And.intro hcall (show F a = none by rw [HF.out.1]; simp [hq]))
        clear hcall hq
        go_wp2_with fail
        with_reducible refine (HQ.out.1 _).mono ?_
        rintro e w6 ⟨rfl, hx6⟩
        replace hx := hx.trans hx6
        replace bo := bo.ext hx6
        replace br := br.ext hx6
        clear hx6 c0 c1 c2
        go_wp2
        go_roundw
        case rel => exact ⟨a + 1, by omega, by go_num, hno.succ HQ.out.2, by (repeat (first | exact hx | exact Ext.refl _ | exact Ext.alloc _ _ | refine Ext.alloced ?_ _ | (refine Ext.stored ?_ ?_; rotate_left; (· (first | (show _ ≤ _; omega) | (simp; done) | (simp; omega)))))), bo.old, br.old⟩
        case measure => simp [intOf]; omega
      | some t =>
        rw [hq] at hcall
        have hcall : ∀ w, Calls Try.prog 66 #[.agg #[.int .i64 K, .int .i64 n, .string o], .int .i64 m, .int .i64 a] w fun e w' => e = .returned (.tuple #[.agg #[.int .i64 K, .int .i64 m, .string (mkS t)], .bool true]) ∧ Ext w w' := hcall
        have HQ := Lib.hid (And.intro hcall (show F a = some (a, t) by rw [HF.out.1]; simp [hq]))
        clear hcall hq
        go_wp2_with fail
        with_reducible refine (HQ.out.1 _).mono ?_
        rintro e w6 ⟨rfl, hx6⟩
        replace hx := hx.trans hx6
        replace br := br.ext hx6
        have br2 := br.old (o := .cells #[.int .i64 K, .int .i64 m, .string (mkS t)] 25)
        obtain ⟨r0, r1, r2, f0, f1, f2⟩ := br2.c3
        clear hx6 c0 c1 c2
        go_wp2
        refine bodyPost_ret (v := .tuple #[.agg #[.int .i64 K, .int .i64 m, .string (mkS t)], .int .i64 a, .bool true]) ?_ rfl ⟨by rw [HF.out.2.1, firstOf_hit hlt hno HQ.out.2]; rfl, by (repeat (first | exact hx | exact Ext.refl _ | exact Ext.alloc _ _ | refine Ext.alloced ?_ _ | (refine Ext.stored ?_ ?_; rotate_left; (· (first | (show _ ≤ _; omega) | (simp; done) | (simp; omega))))))⟩
        simp [results, Try.results26, go_sem, r0, r1, r2]
    · have had : a = d := by omega
      subst had
      obtain ⟨r0, r1, r2, f0, f1, f2⟩ := br.c3
      go_wp2
      refine bodyPost_ret (v := .tuple #[.agg #[.int .i64 0, .int .i64 0, .string ⟨#[]⟩], .int .i64 0, .bool false]) ?_ rfl ⟨by rw [HF.out.2.1, firstOf_none hno]; rfl, by (repeat (first | exact hx | exact Ext.refl _ | exact Ext.alloc _ _ | refine Ext.alloced ?_ _ | (refine Ext.stored ?_ ?_; rotate_left; (· (first | (show _ ≤ _; omega) | (simp; done) | (simp; omega))))))⟩
      simp [results, Try.results26, go_sem, r0, r1, r2]
end Go.Proofs.Ytfkdpeifnfpldaa

/- Contracts: UndoingCode of the reference, LeastUndoing of both. -/
import Derived.Test.YtfkdpeifnfpldaaUndoC
namespace Go.Proofs.Ytfkdpeifnfpldaa
open Go.RowKit Go.Cm

set_option maxRecDepth 100000 in
set_option maxHeartbeats 2000000 in
theorem spec_UndoingCode_yes (K n m : Nat) (o : ByteArray) (w : World) (hf : CodeFit K n o) (hcd : codeOk K n o = true) (hm1 : 1 ≤ m) (hm4 : m ≤ 4) (hm27 : K ^ m ≤ 27) :
    Calls Try.prog 27 #[.agg #[.int .i64 K, .int .i64 n, .string o], .int .i64 m] w fun e w' => e = .returned (undoRV K m (undoAll K n m o)) ∧ Ext w w' := by
  have hk2 := hf.k2
  have hk3 := hf.k3
  have hn1 := hf.n1
  have hn4 := hf.n4
  have ho : o.size ≤ maxLen := by have := hf.size; have := hf.le; unfold maxLen; omega
  have hpw : pw (K : Int) (m : Int) ≤ 27 := by rw [pw_nat]; omega
  have hd3 : decide (27 < pw (K : Int) m) = false := by simp; omega
  obtain ⟨d, hd⟩ : ∃ d, d = n + m - 1 := ⟨_, rfl⟩
  have hdi : (n : Int) + (m : Int) - 1 = (d : Int) := by omega
  have hd16 : d ≤ 7 := by omega
  obtain ⟨r, hr⟩ : ∃ r, r = undoAll K n m o := ⟨_, rfl⟩
  rw [← hr]
  obtain ⟨F, hF⟩ : ∃ F : Nat → Option (Nat × List UInt8), F = fun a => (undoL K n m a o).map fun t => (a, t) := ⟨_, rfl⟩
  have hr' : r = firstOf d F := by rw [hr, hF, hd]; rfl
  have HC := Lib.hid hcd
  have HF := Lib.hid (And.intro hF (And.intro hr' hd))
  clear hr hF hr' hd hpw hcd
  go_enter Try.func27, Try.ntmps27
  go_wp2_with fail
  with_reducible refine (spec_IsCode_any _ _ _ _ ho).mono ?_
  rintro e w1 ⟨rfl, hx⟩
  rw [HC.out]
  have br := (show Blk _ (w.heap.size + 1) #[.int .i64 0, .int .i64 0, .string ⟨#[]⟩] by (repeat (first | (refine Blk.mk' ?_; (simp; done)) | apply Blk.old))).ext hx
  have bo := (show Blk _ w.heap.size #[.int .i64 K, .int .i64 n, .string o] by (repeat (first | (refine Blk.mk' ?_; (simp; done)) | apply Blk.old))).ext hx
  replace hx : Ext w w1 := Ext.trans (by (repeat (first | exact (Ext.refl w) | exact Ext.refl _ | exact Ext.alloc _ _ | refine Ext.alloced ?_ _ | (refine Ext.stored ?_ ?_; rotate_left; (· (first | (show _ ≤ _; omega) | (simp; done) | (simp; omega))))))) hx
  obtain ⟨c0, c1, c2, -, -, -⟩ := bo.c3
  go_wp2_with fail
  with_reducible refine (spec_l1In_yes (m : Int) 1 4 _ (by omega) (by omega)).mono ?_
  rintro e w2 ⟨rfl, rfl⟩
  go_wp2_with fail
  with_reducible refine (spec_l11Power_any _ _ _ (by omega) (by omega) (by omega) (by omega)).mono ?_
  rintro e w2 ⟨rfl, rfl⟩
  go_wp2
  go_loopw [7] (fun i wr => ∃ a : Nat, a ≤ d ∧ i = .int .i64 a ∧ NoneTo F a ∧ Ext w wr ∧ Blk wr w.heap.size #[.int .i64 K, .int .i64 n, .string o] ∧ Blk wr (w.heap.size + 1) #[.int .i64 0, .int .i64 0, .string ⟨#[]⟩]) (fun i _ => d - (intOf i).toNat)
  case atStart => exact ⟨0, by omega, rfl, NoneTo.zero F, hx, bo, br⟩
  case round =>
    clear hx bo br c0 c1 c2
    obtain ⟨a, ha, rfl, hno, hx, bo, br⟩ := hrel
    obtain ⟨c0, c1, c2, -, -, -⟩ := bo.c3
    by_cases hlt : a < d
    · have hcall := fun w => spec_l13Try_any K n m a o w hf hm1 hm4 hm27 (by have := HF.out.2.2; omega)
      cases hq : undoL K n m a o with
      | none =>
        rw [hq] at hcall
        have hcall : ∀ w, Calls Try.prog 67 #[.agg #[.int .i64 K, .int .i64 n, .string o], .int .i64 m, .int .i64 a] w fun e w' => e = .returned (.tuple #[.string ⟨#[]⟩, .bool false]) ∧ Ext w w' := hcall
        have HQ := Lib.hid (And.intro hcall (show F a = none by rw [HF.out.1]; simp [hq]))
        clear hcall hq
        go_wp2_with fail
        with_reducible refine (HQ.out.1 _).mono ?_
        rintro e w6 ⟨rfl, hx6⟩
        replace hx := hx.trans hx6
        replace bo := bo.ext hx6
        replace br := br.ext hx6
        clear hx6 c0 c1 c2
        go_wp2
        go_roundw
        case rel => exact ⟨a + 1, by omega, by go_num, hno.succ HQ.out.2, hx, bo, br⟩
        case measure => simp [intOf]; omega
      | some t =>
        rw [hq] at hcall
        have hcall : ∀ w, Calls Try.prog 67 #[.agg #[.int .i64 K, .int .i64 n, .string o], .int .i64 m, .int .i64 a] w fun e w' => e = .returned (.tuple #[.string (mkS t), .bool true]) ∧ Ext w w' := hcall
        have HQ := Lib.hid (And.intro hcall (show F a = some (a, t) by rw [HF.out.1]; simp [hq]))
        clear hcall hq
        go_wp2_with fail
        with_reducible refine (HQ.out.1 _).mono ?_
        rintro e w6 ⟨rfl, hx6⟩
        replace hx := hx.trans hx6
        replace br := br.ext hx6
        replace bo := bo.ext hx6
        clear c0 c1 c2
        obtain ⟨c0, c1, c2, -, -, -⟩ := bo.c3
        obtain ⟨r0, r1, r2, f0, f1, f2⟩ := br.c3
        clear hx6
        go_wp2
        refine bodyPost_ret (v := .tuple #[.agg #[.int .i64 K, .int .i64 m, .string (mkS t)], .int .i64 a, .bool true]) ?_ rfl ⟨by rw [HF.out.2.1, firstOf_hit hlt hno HQ.out.2]; rfl, by (repeat (first | exact hx | exact Ext.refl _ | exact Ext.alloc _ _ | refine Ext.alloced ?_ _ | (refine Ext.stored ?_ ?_; rotate_left; (· (first | (show _ ≤ _; omega) | (simp; done) | (simp; omega))))))⟩
        simp [results, Try.results27, go_sem, r0, r1, r2]
    · have had : a = d := by omega
      subst had
      obtain ⟨r0, r1, r2, f0, f1, f2⟩ := br.c3
      go_wp2
      refine bodyPost_ret (v := .tuple #[.agg #[.int .i64 0, .int .i64 0, .string ⟨#[]⟩], .int .i64 0, .bool false]) ?_ rfl ⟨by rw [HF.out.2.1, firstOf_none hno]; rfl, by (repeat (first | exact hx | exact Ext.refl _ | exact Ext.alloc _ _ | refine Ext.alloced ?_ _ | (refine Ext.stored ?_ ?_; rotate_left; (· (first | (show _ ≤ _; omega) | (simp; done) | (simp; omega))))))⟩
      simp [results, Try.results27, go_sem, r0, r1, r2]

theorem impl_UndoingCode_any (L W m : Int) (o : ByteArray) (w : World) (ho : o.size ≤ maxLen) :
    Calls Try.prog 26 #[.agg #[.int .i64 L, .int .i64 W, .string o], .int .i64 m] w fun e w' => e = .returned (undoRV L m (undoAny L W m o)) ∧ Ext w w' := by
  unfold undoAny
  by_cases h : undOk L W m o = true
  · rw [if_pos h]
    obtain ⟨K, n, k, rfl, rfl, rfl, hf, hcd, h1, h4, h27⟩ := undOk_parts h
    exact impl_UndoingCode_yes K n k o w hf hcd h1 h4 h27
  · rw [if_neg h]
    exact impl_UndoingCode_no L W m o w ho (by simpa using h)
theorem spec_UndoingCode_any (L W m : Int) (o : ByteArray) (w : World) (ho : o.size ≤ maxLen) :
    Calls Try.prog 27 #[.agg #[.int .i64 L, .int .i64 W, .string o], .int .i64 m] w fun e w' => e = .returned (undoRV L m (undoAny L W m o)) ∧ Ext w w' := by
  unfold undoAny
  by_cases h : undOk L W m o = true
  · rw [if_pos h]
    obtain ⟨K, n, k, rfl, rfl, rfl, hf, hcd, h1, h4, h27⟩ := undOk_parts h
    exact spec_UndoingCode_yes K n k o w hf hcd h1 h4 h27
  · rw [if_neg h]
    exact spec_UndoingCode_no L W m o w ho (by simpa using h)

/-- the least width of an undoing code, less one -/
def leastF (L W : Int) (o : ByteArray) (i : Nat) : Option Nat := if (undoAny L W ((i + 1 : Nat) : Int) o).isSome = true then some (i + 1) else none
def leastU (L W : Int) (o : ByteArray) : Nat := (firstOf 4 (leastF L W o)).getD 0


set_option maxHeartbeats 2000000 in
theorem impl_LeastUndoing_any (L W : Int) (o : ByteArray) (w : World) (ho : o.size ≤ maxLen) :
    Calls Try.prog 32 #[.agg #[.int .i64 L, .int .i64 W, .string o]] w fun e w' => e = .returned (.int .i64 (leastU L W o : Nat)) ∧ Ext w w' := by
  have HU := Lib.hid (fun (m : Int) (w : World) => impl_UndoingCode_any L W m o w ho)
  go_enter Try.func32, Try.ntmps32
  go_wp2
  go_loopw [3] (fun i wr => ∃ k : Nat, k ≤ 4 ∧ i = .int .i64 (k + 1) ∧ NoneTo (leastF L W o) k ∧ Ext w wr ∧ Blk wr w.heap.size #[.int .i64 L, .int .i64 W, .string o]) (fun i _ => 5 - (intOf i).toNat)
  case atStart => exact ⟨0, by omega, rfl, NoneTo.zero _, Ext.alloc _ _, Blk.mk' rfl⟩
  case round =>
    obtain ⟨k, hk, rfl, hno, hx, bo⟩ := hrel
    obtain ⟨c0, c1, c2, -, -, -⟩ := bo.c3
    by_cases hlt : k < 4
    · have hcall := HU.out ((k : Int) + 1)
      obtain ⟨r, hr⟩ : ∃ r, r = undoAny L W ((k : Int) + 1) o := ⟨_, rfl⟩
      rw [← hr] at hcall
      cases r with
      | none =>
        have hcall : ∀ w, Calls Try.prog 26 #[.agg #[.int .i64 L, .int .i64 W, .string o], .int .i64 ((k : Int) + 1)] w fun e w' => e = .returned (.tuple #[.agg #[.int .i64 0, .int .i64 0, .string ⟨#[]⟩], .int .i64 0, .bool false]) ∧ Ext w w' := hcall
        have HQ := Lib.hid (And.intro hcall (show leastF L W o k = none by unfold leastF; rw [show ((k + 1 : Nat) : Int) = (k : Int) + 1 by omega, ← hr]; rfl))
        clear hcall hr
        go_wp2_with fail
        with_reducible refine (HQ.out.1 _).mono ?_
        rintro e w6 ⟨rfl, hx6⟩
        replace hx := hx.trans hx6
        replace bo := bo.ext hx6
        clear hx6 c0 c1 c2
        go_wp2
        go_roundw
        case rel => exact ⟨k + 1, by omega, by go_num, hno.succ HQ.out.2, by (repeat (first | exact hx | exact Ext.refl _ | exact Ext.alloc _ _ | refine Ext.alloced ?_ _ | (refine Ext.stored ?_ ?_; rotate_left; (· (first | (show _ ≤ _; omega) | (simp; done) | (simp; omega)))))), bo.old⟩
        case measure => simp [intOf]; omega
      | some p =>
        obtain ⟨a, t⟩ := p
        have hcall : ∀ w, Calls Try.prog 26 #[.agg #[.int .i64 L, .int .i64 W, .string o], .int .i64 ((k : Int) + 1)] w fun e w' => e = .returned (.tuple #[.agg #[.int .i64 L, .int .i64 ((k : Int) + 1), .string (mkS t)], .int .i64 a, .bool true]) ∧ Ext w w' := hcall
        have HQ := Lib.hid (And.intro hcall (show leastF L W o k = some (k + 1) by unfold leastF; rw [show ((k + 1 : Nat) : Int) = (k : Int) + 1 by omega, ← hr]; rfl))
        clear hcall hr
        go_wp2_with fail
        with_reducible refine (HQ.out.1 _).mono ?_
        rintro e w6 ⟨rfl, hx6⟩
        replace hx := hx.trans hx6
        clear hx6 c0 c1 c2
        go_wp2
        go_ret
        exact ⟨ret_int (by unfold leastU; rw [firstOf_hit hlt hno HQ.out.2]; simp), by (repeat (first | exact hx | exact Ext.refl _ | exact Ext.alloc _ _ | refine Ext.alloced ?_ _ | (refine Ext.stored ?_ ?_; rotate_left; (· (first | (show _ ≤ _; omega) | (simp; done) | (simp; omega))))))⟩
    · have hk4 : k = 4 := by omega
      subst hk4
      go_wp2
      go_ret
      exact ⟨ret_int (by unfold leastU; rw [firstOf_none hno]; rfl), hx⟩

set_option maxHeartbeats 2000000 in
theorem spec_LeastUndoing_any (L W : Int) (o : ByteArray) (w : World) (ho : o.size ≤ maxLen) :
    Calls Try.prog 33 #[.agg #[.int .i64 L, .int .i64 W, .string o]] w fun e w' => e = .returned (.int .i64 (leastU L W o : Nat)) ∧ Ext w w' := by
  have HU := Lib.hid (fun (m : Int) (w : World) => spec_UndoingCode_any L W m o w ho)
  go_enter Try.func33, Try.ntmps33
  go_wp2
  go_loopw [3] (fun i wr => ∃ k : Nat, k ≤ 4 ∧ i = .int .i64 (k + 1) ∧ NoneTo (leastF L W o) k ∧ Ext w wr ∧ Blk wr w.heap.size #[.int .i64 L, .int .i64 W, .string o]) (fun i _ => 5 - (intOf i).toNat)
  case atStart => exact ⟨0, by omega, rfl, NoneTo.zero _, Ext.alloc _ _, Blk.mk' rfl⟩
  case round =>
    obtain ⟨k, hk, rfl, hno, hx, bo⟩ := hrel
    obtain ⟨c0, c1, c2, -, -, -⟩ := bo.c3
    by_cases hlt : k < 4
    · have hcall := HU.out ((k : Int) + 1)
      obtain ⟨r, hr⟩ : ∃ r, r = undoAny L W ((k : Int) + 1) o := ⟨_, rfl⟩
      rw [← hr] at hcall
      cases r with
      | none =>
        have hcall : ∀ w, Calls Try.prog 27 #[.agg #[.int .i64 L, .int .i64 W, .string o], .int .i64 ((k : Int) + 1)] w fun e w' => e = .returned (.tuple #[.agg #[.int .i64 0, .int .i64 0, .string ⟨#[]⟩], .int .i64 0, .bool false]) ∧ Ext w w' := hcall
        have HQ := Lib.hid (And.intro hcall (show leastF L W o k = none by unfold leastF; rw [show ((k + 1 : Nat) : Int) = (k : Int) + 1 by omega, ← hr]; rfl))
        clear hcall hr
        go_wp2_with fail
        with_reducible refine (HQ.out.1 _).mono ?_
        rintro e w6 ⟨rfl, hx6⟩
        replace hx := hx.trans hx6
        replace bo := bo.ext hx6
        clear hx6 c0 c1 c2
        go_wp2
        go_roundw
        case rel => exact ⟨k + 1, by omega, by go_num, hno.succ HQ.out.2, by (repeat (first | exact hx | exact Ext.refl _ | exact Ext.alloc _ _ | refine Ext.alloced ?_ _ | (refine Ext.stored ?_ ?_; rotate_left; (· (first | (show _ ≤ _; omega) | (simp; done) | (simp; omega)))))), bo.old⟩
        case measure => simp [intOf]; omega
      | some p =>
        obtain ⟨a, t⟩ := p
        have hcall : ∀ w, Calls Try.prog 27 #[.agg #[.int .i64 L, .int .i64 W, .string o], .int .i64 ((k : Int) + 1)] w fun e w' => e = .returned (.tuple #[.agg #[.int .i64 L, .int .i64 ((k : Int) + 1), .string (mkS t)], .int .i64 a, .bool true]) ∧ Ext w w' := hcall
        have HQ := Lib.hid (And.intro hcall (show leastF L W o k = some (k + 1) by unfold leastF; rw [show ((k + 1 : Nat) : Int) = (k : Int) + 1 by omega, ← hr]; rfl))
        clear hcall hr
        go_wp2_with fail
        with_reducible refine (HQ.out.1 _).mono ?_
        rintro e w6 ⟨rfl, hx6⟩
        replace hx := hx.trans hx6
        clear hx6 c0 c1 c2
        go_wp2
        go_ret
        exact ⟨ret_int (by unfold leastU; rw [firstOf_hit hlt hno HQ.out.2]; simp), by (repeat (first | exact hx | exact Ext.refl _ | exact Ext.alloc _ _ | refine Ext.alloced ?_ _ | (refine Ext.stored ?_ ?_; rotate_left; (· (first | (show _ ≤ _; omega) | (simp; done) | (simp; omega))))))⟩
    · have hk4 : k = 4 := by omega
      subst hk4
      go_wp2
      go_ret
      exact ⟨ret_int (by unfold leastU; rw [firstOf_none hno]; rfl), hx⟩
end Go.Proofs.Ytfkdpeifnfpldaa

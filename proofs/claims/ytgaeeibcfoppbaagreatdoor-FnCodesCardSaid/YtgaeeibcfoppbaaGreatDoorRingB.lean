/- Contracts: ApplyRing of both. -/
import Derived.Test.YtgaeeibcfoppbaaGreatDoorRingA
namespace Go.Proofs.YtgaeeibcfoppbaaGreatDoor
open Go.RowKit Go.Cm

theorem str_ne {s : ByteArray} (h : 1 ≤ s.size) : (s.toList == []) = false ∧ s.toList.isEmpty = false := by
  have h : ¬ s.toList = [] := by
    rw [ByteArray.toList_eq]
    intro e
    have h2 : s.data.toList.length = 0 := by rw [e]; rfl
    have h3 : s.data.toList.length = s.size := by simp
    omega
  exact ⟨by simp [h], by simp [h]⟩
theorem str_nil {s : ByteArray} (h : ¬ 1 ≤ s.size) : s = ⟨#[]⟩ := by
  obtain ⟨⟨l⟩⟩ := s
  have h2 : l.length = 0 := by
    have : (ByteArray.mk ⟨l⟩).size = l.length := rfl
    omega
  have : l = [] := List.eq_nil_of_length_eq_zero h2
  rw [this]

set_option maxHeartbeats 2000000 in
theorem impl_ApplyRing_yes (K n : Nat) (o s : ByteArray) (w : World) (hcd : codeOk K n o = true) (hf : CodeFit K n o) (hw : wordOk K s = true) (hs1 : 1 ≤ s.size) :
    Calls Tryz.prog 12 #[.agg #[.int .i64 K, .int .i64 n, .string o], .string s] w fun e w' => e = .returned (.tuple #[.string (mkS (ringL K n o s.data.toList)), .bool true]) ∧ Ext w w' := by
  have ho : o.size ≤ maxLen := by have := hf.size; have := hf.le; unfold maxLen; omega
  obtain ⟨hs, ha⟩ := wordOk_parts hw
  have hsm : s.size ≤ maxLen := by unfold maxLen; omega
  have HC := Lib.hid (And.intro hcd (And.intro hw (fun w => impl_ring_any K n o s w hf hs1 hs ha)))
  obtain ⟨hne, hne2⟩ := str_ne hs1
  clear hcd hw ha
  go_enter Tryz.func12, Tryz.ntmps12
  go_wp2_with fail
  with_reducible refine (impl_IsCode_any _ _ _ _ ho).mono ?_
  rintro e w1 ⟨rfl, hx⟩
  rw [HC.out.1]
  have bo := (show Blk _ w.heap.size #[.int .i64 K, .int .i64 n, .string o] by (repeat (first | (refine Blk.mk' ?_; (simp; done)) | apply Blk.old))).ext hx
  replace hx : Ext w w1 := Ext.trans (by (repeat (first | exact (Ext.refl w) | exact Ext.refl _ | exact Ext.alloc _ _ | refine Ext.alloced ?_ _ | (refine Ext.stored ?_ ?_; rotate_left; (· (first | (show _ ≤ _; omega) | (simp; done) | (simp; omega))))))) hx
  obtain ⟨c0, c1, c2, -, -, -⟩ := bo.c3
  go_wp2_with fail
  with_reducible refine (impl_IsWord_any _ _ _ hsm).mono ?_
  rintro e w2 ⟨rfl, rfl⟩
  rw [HC.out.2.1]
  go_wp2_with fail
  with_reducible refine (HC.out.2.2 _).mono ?_
  rintro e w2 ⟨rfl, hx2⟩
  replace hx := hx.trans hx2
  go_wp2
  go_ret2
  exact ⟨rfl, hx⟩

set_option maxHeartbeats 2000000 in
theorem impl_ApplyRing_no (L W : Int) (o s : ByteArray) (w : World) (ho : o.size ≤ maxLen) (hs : s.size ≤ maxLen) (h : ringOk L W o s = false) :
    Calls Tryz.prog 12 #[.agg #[.int .i64 L, .int .i64 W, .string o], .string s] w fun e w' => e = .returned (.tuple #[.string ⟨#[]⟩, .bool false]) ∧ Ext w w' := by
  cases hc : codeOk L W o with
  | false =>
    clear h
    go_enter Tryz.func12, Tryz.ntmps12
    go_wp2_with fail
    with_reducible refine (impl_IsCode_any _ _ _ _ ho).mono ?_
    rintro e w1 ⟨rfl, hx⟩
    rw [hc]
    replace hx : Ext w w1 := Ext.trans (by (repeat (first | exact (Ext.refl w) | exact Ext.refl _ | exact Ext.alloc _ _ | refine Ext.alloced ?_ _ | (refine Ext.stored ?_ ?_; rotate_left; (· (first | (show _ ≤ _; omega) | (simp; done) | (simp; omega))))))) hx
    go_wp2
    go_ret2
    exact ⟨rfl, hx⟩
  | true =>
    by_cases hs1 : 1 ≤ s.size
    · have hw : wordOk L s = false := by unfold ringOk at h; rw [hc] at h; simpa [hs1] using h
      obtain ⟨hne, hne2⟩ := str_ne hs1
      have HC := Lib.hid (And.intro hc hw)
      clear h hc hw
      go_enter Tryz.func12, Tryz.ntmps12
      go_wp2_with fail
      with_reducible refine (impl_IsCode_any _ _ _ _ ho).mono ?_
      rintro e w1 ⟨rfl, hx⟩
      rw [HC.out.1]
      have bo := (show Blk _ w.heap.size #[.int .i64 L, .int .i64 W, .string o] by (repeat (first | (refine Blk.mk' ?_; (simp; done)) | apply Blk.old))).ext hx
      replace hx : Ext w w1 := Ext.trans (by (repeat (first | exact (Ext.refl w) | exact Ext.refl _ | exact Ext.alloc _ _ | refine Ext.alloced ?_ _ | (refine Ext.stored ?_ ?_; rotate_left; (· (first | (show _ ≤ _; omega) | (simp; done) | (simp; omega))))))) hx
      obtain ⟨c0, c1, c2, -, -, -⟩ := bo.c3
      go_wp2_with fail
      with_reducible refine (impl_IsWord_any _ _ _ hs).mono ?_
      rintro e w2 ⟨rfl, rfl⟩
      rw [HC.out.2]
      go_wp2
      go_ret2
      exact ⟨rfl, hx⟩
    · obtain rfl := str_nil hs1
      clear h hs1
      go_enter Tryz.func12, Tryz.ntmps12
      go_wp2_with fail
      with_reducible refine (impl_IsCode_any _ _ _ _ ho).mono ?_
      rintro e w1 ⟨rfl, hx⟩
      rw [hc]
      replace hx : Ext w w1 := Ext.trans (by (repeat (first | exact (Ext.refl w) | exact Ext.refl _ | exact Ext.alloc _ _ | refine Ext.alloced ?_ _ | (refine Ext.stored ?_ ?_; rotate_left; (· (first | (show _ ≤ _; omega) | (simp; done) | (simp; omega))))))) hx
      go_wp2
      go_ret2
      exact ⟨rfl, hx⟩

set_option maxHeartbeats 2000000 in
theorem spec_ApplyRing_no (L W : Int) (o s : ByteArray) (w : World) (ho : o.size ≤ maxLen) (hs : s.size ≤ maxLen) (h : ringOk L W o s = false) :
    Calls Tryz.prog 13 #[.agg #[.int .i64 L, .int .i64 W, .string o], .string s] w fun e w' => e = .returned (.tuple #[.string ⟨#[]⟩, .bool false]) ∧ Ext w w' := by
  cases hc : codeOk L W o with
  | false =>
    clear h
    go_enter Tryz.func13, Tryz.ntmps13
    go_wp2_with fail
    with_reducible refine (spec_IsCode_any _ _ _ _ ho).mono ?_
    rintro e w1 ⟨rfl, hx⟩
    rw [hc]
    replace hx : Ext w w1 := Ext.trans (by (repeat (first | exact (Ext.refl w) | exact Ext.refl _ | exact Ext.alloc _ _ | refine Ext.alloced ?_ _ | (refine Ext.stored ?_ ?_; rotate_left; (· (first | (show _ ≤ _; omega) | (simp; done) | (simp; omega))))))) hx
    go_wp2
    go_ret2
    exact ⟨rfl, hx⟩
  | true =>
    cases hw : wordOk L s with
    | false =>
      have HC := Lib.hid (And.intro hc hw)
      clear h hc hw
      go_enter Tryz.func13, Tryz.ntmps13
      go_wp2_with fail
      with_reducible refine (spec_IsCode_any _ _ _ _ ho).mono ?_
      rintro e w1 ⟨rfl, hx⟩
      rw [HC.out.1]
      have bo := (show Blk _ w.heap.size #[.int .i64 L, .int .i64 W, .string o] by (repeat (first | (refine Blk.mk' ?_; (simp; done)) | apply Blk.old))).ext hx
      replace hx : Ext w w1 := Ext.trans (by (repeat (first | exact (Ext.refl w) | exact Ext.refl _ | exact Ext.alloc _ _ | refine Ext.alloced ?_ _ | (refine Ext.stored ?_ ?_; rotate_left; (· (first | (show _ ≤ _; omega) | (simp; done) | (simp; omega))))))) hx
      obtain ⟨c0, c1, c2, -, -, -⟩ := bo.c3
      go_wp2_with fail
      with_reducible refine (spec_IsWord_any _ _ _ hs).mono ?_
      rintro e w2 ⟨rfl, rfl⟩
      rw [HC.out.2]
      go_wp2
      go_ret2
      exact ⟨rfl, hx⟩
    | true =>
      have hs1 : ¬ 1 ≤ s.size := by
        intro h1
        have e : ringOk L W o s = true := by unfold ringOk; rw [hc, hw, decide_eq_true h1]; rfl
        rw [e] at h
        cases h
      obtain rfl := str_nil hs1
      have HC := Lib.hid (And.intro hc hw)
      clear h hc hw hs1
      go_enter Tryz.func13, Tryz.ntmps13
      go_wp2_with fail
      with_reducible refine (spec_IsCode_any _ _ _ _ ho).mono ?_
      rintro e w1 ⟨rfl, hx⟩
      rw [HC.out.1]
      have bo := (show Blk _ w.heap.size #[.int .i64 L, .int .i64 W, .string o] by (repeat (first | (refine Blk.mk' ?_; (simp; done)) | apply Blk.old))).ext hx
      replace hx : Ext w w1 := Ext.trans (by (repeat (first | exact (Ext.refl w) | exact Ext.refl _ | exact Ext.alloc _ _ | refine Ext.alloced ?_ _ | (refine Ext.stored ?_ ?_; rotate_left; (· (first | (show _ ≤ _; omega) | (simp; done) | (simp; omega))))))) hx
      obtain ⟨c0, c1, c2, -, -, -⟩ := bo.c3
      go_wp2_with fail
      with_reducible refine (spec_IsWord_any _ _ _ hs).mono ?_
      rintro e w2 ⟨rfl, rfl⟩
      rw [HC.out.2]
      go_wp2
      go_ret2
      exact ⟨rfl, hx⟩
end Go.Proofs.YtgaeeibcfoppbaaGreatDoor

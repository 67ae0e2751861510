/- Contracts: the program's ComposeCodes. -/
import Derived.Test.YtgaeeibcfoppbaaGreatDoorPkC
import Derived.Test.YtgaeeibcfoppbaaGreatDoorApplyD
namespace Go.Proofs.YtgaeeibcfoppbaaGreatDoor
open Go.RowKit Go.Cm

theorem cellsCode {w w' : World} {b : Nat} {L W : Int} {o : ByteArray} (hx : Ext w w') (c0 : w.cell? ⟨b, 0, none⟩ = some (.int .i64 L)) (c1 : w.cell? ⟨b, 1, none⟩ = some (.int .i64 W)) (c2 : w.cell? ⟨b, 2, none⟩ = some (.string o)) :
    w'.cell? ⟨b, 0, none⟩ = some (.int .i64 L) ∧ w'.cell? ⟨b, 1, none⟩ = some (.int .i64 W) ∧ w'.cell? ⟨b, 2, none⟩ = some (.string o) :=
  ⟨hx.cell_some c0, hx.cell_some c1, hx.cell_some c2⟩

theorem compose1_any (K n m : Nat) (o o' : ByteArray) (u : List UInt8) (b b' : Nat) (w : World) (hf : CodeFit K n o) (hf' : CodeFit K m o')
    (c0 : w.cell? ⟨b, 0, none⟩ = some (.int .i64 K)) (c1 : w.cell? ⟨b, 1, none⟩ = some (.int .i64 n)) (c2 : w.cell? ⟨b, 2, none⟩ = some (.string o))
    (d0 : w.cell? ⟨b', 0, none⟩ = some (.int .i64 K)) (d1 : w.cell? ⟨b', 1, none⟩ = some (.int .i64 m)) (d2 : w.cell? ⟨b', 2, none⟩ = some (.string o'))
    (hl : u.length = n + m - 1) (ha : areLet K u = true) :
    Calls Tryz.prog 27 #[.string (mkS u), .pointer (some ⟨b, 0, none⟩), .pointer (some ⟨b', 0, none⟩)] w fun e w' => e = .returned (.int .u8 ((composeL K m o o' u).toNat : Int)) ∧ Ext w w' := by
  have hn4 := hf.n4
  have hm4 := hf'.n4
  have hm1 := hf'.n1
  have hsz : (mkS u).size ≤ 1048576 := by rw [mkS_size]; omega
  have hap : (applyL K m o' u).length = n := by rw [applyL_length]; omega
  have haa := areLet_apply hf'.size hf'.lets ha
  have HA := Lib.hid (And.intro hap (And.intro haa ha))
  clear hl ha hap haa
  go_enter Tryz.func27, Tryz.ntmps27
  go_wp2
  refine wp_region_inv (by kernel_rfl) [.known (.agg #[.int .i64 K, .int .i64 n, .string o]), .known (.agg #[.int .i64 K, .int .i64 m, .string o']), .known (.string (mkS u)), .known (.string (mkS (applyL K m o' u))), .known (.int .u8 ((composeL K m o o' u).toNat : Int)), .known (.int .u8 ((composeL K m o o' u).toNat : Int))] rfl (by kernel_rfl) ?_ ?_
  · intro vs
    refine ⟨fun w' hx hj => ?_, fun w' hx hj => ?_, fun w' hx hj => ?_, fun w' hx hj => ?_, fun w' hx hj => ?_, fun w' hx hj => ?_, trivial⟩
    · have c0 := Ext.cell_some hx c0
      have c1 := Ext.cell_some hx c1
      have c2 := Ext.cell_some hx c2
      clear hj
      go_simp
    · have c0 := Ext.cell_some hx d0
      have c1 := Ext.cell_some hx d1
      have c2 := Ext.cell_some hx d2
      clear hj
      go_simp
    · clear hj
      go_simp
    · clear hj
      go_simp
      rw [← mkS_data u]
      rw [mkS_data_self]
      exact impl_apply_any K m o' (mkS u) _ hf' hsz (by rw [mkS_data]; exact HA.out.2.2)
    · clear hj
      go_simp
      exact impl_gives_any K n o _ _ hf HA.out.1 HA.out.2.1
    · clear hj
      go_simp
  · intro vs w1 hx1 hk
    clear hk
    go_simp
    go_wp2
    go_ret
    exact ⟨rfl, hx1⟩

set_option maxHeartbeats 1000000 in
theorem impl_ComposeCodes_no (L W L' W' : Int) (o o' : ByteArray) (w : World) (ho : o.size ≤ maxLen) (ho' : o'.size ≤ maxLen) (h : (codeOk L W o && (codeOk L' W' o' && decide (L = L'))) = false) :
    Calls Tryz.prog 6 #[.agg #[.int .i64 L, .int .i64 W, .string o], .agg #[.int .i64 L', .int .i64 W', .string o']] w fun e w' => e = .returned (.tuple #[.agg #[.int .i64 0, .int .i64 0, .string ⟨#[]⟩], .bool false]) ∧ Ext w w' := by
  cases hc : codeOk L W o with
  | false =>
    clear h
    go_enter Tryz.func6, Tryz.ntmps6
    go_wp2_with fail
    refine (impl_IsCode_any _ _ _ _ ho).mono ?_
    rintro e w1 ⟨rfl, hx⟩
    rw [hc]
    have r0 : w1.cell? ⟨w.heap.size + 1 + 1, 0, none⟩ = some (.int .i64 0) := hx.cell_some (by (repeat (first | (refine cell_new ?_ ?_; (· (simp; done)); (· rfl)) | apply cell_old)))
    have r1 : w1.cell? ⟨w.heap.size + 1 + 1, 1, none⟩ = some (.int .i64 0) := hx.cell_some (by (repeat (first | (refine cell_new ?_ ?_; (· (simp; done)); (· rfl)) | apply cell_old)))
    have r2 : w1.cell? ⟨w.heap.size + 1 + 1, 2, none⟩ = some (.string ⟨#[]⟩) := hx.cell_some (by (repeat (first | (refine cell_new ?_ ?_; (· (simp; done)); (· rfl)) | apply cell_old)))
    have f0 : w1.frozen? ⟨w.heap.size + 1 + 1, 0, none⟩ = false := Ext.frozen_is hx (by simp) (by (repeat (first | (refine frozen_new ?_; (simp; done)) | (refine frozen_old ?_ ?_; (· (simp <;> omega))))))
    have f1 : w1.frozen? ⟨w.heap.size + 1 + 1, 1, none⟩ = false := Ext.frozen_is hx (by simp) (by (repeat (first | (refine frozen_new ?_; (simp; done)) | (refine frozen_old ?_ ?_; (· (simp <;> omega))))))
    have f2 : w1.frozen? ⟨w.heap.size + 1 + 1, 2, none⟩ = false := Ext.frozen_is hx (by simp) (by (repeat (first | (refine frozen_new ?_; (simp; done)) | (refine frozen_old ?_ ?_; (· (simp <;> omega))))))
    have hx0 := (((Ext.alloc _ _).trans (Ext.alloc _ _)).trans (Ext.alloc _ _)).trans hx
    clear hx
    go_wp2
    refine bodyPost_ret (v := .tuple #[.agg #[.int .i64 0, .int .i64 0, .string ⟨#[]⟩], .bool false]) ?_ rfl ⟨rfl, ((hx0.setCell (by simp; omega) _).setCell (by simp; omega) _).setCell (by simp; omega) _⟩
    simp [results, Tryz.results6, go_sem, r0, r1, r2]
  | true =>
    have hc' : (codeOk L' W' o' && decide (L = L')) = false := by simpa [hc] using h
    clear h
    go_enter Tryz.func6, Tryz.ntmps6
    go_wp2_with fail
    refine (impl_IsCode_any _ _ _ _ ho).mono ?_
    rintro e w1 ⟨rfl, hx⟩
    rw [hc]
    have c0 : w1.cell? ⟨w.heap.size, 0, none⟩ = some (.int .i64 L) := hx.cell_some (by (repeat (first | (refine cell_new ?_ ?_; (· (simp; done)); (· rfl)) | apply cell_old)))
    have d0 : w1.cell? ⟨w.heap.size + 1, 0, none⟩ = some (.int .i64 L') := hx.cell_some (by (repeat (first | (refine cell_new ?_ ?_; (· (simp; done)); (· rfl)) | apply cell_old)))
    have d1 : w1.cell? ⟨w.heap.size + 1, 1, none⟩ = some (.int .i64 W') := hx.cell_some (by (repeat (first | (refine cell_new ?_ ?_; (· (simp; done)); (· rfl)) | apply cell_old)))
    have d2 : w1.cell? ⟨w.heap.size + 1, 2, none⟩ = some (.string o') := hx.cell_some (by (repeat (first | (refine cell_new ?_ ?_; (· (simp; done)); (· rfl)) | apply cell_old)))
    have hx0 := (((Ext.alloc _ _).trans (Ext.alloc _ _)).trans (Ext.alloc _ _)).trans hx
    go_wp2_with fail
    refine (impl_IsCode_any _ _ _ _ ho').mono ?_
    rintro e w2 ⟨rfl, hx2⟩
    replace hx := hx.trans hx2
    replace hx0 := hx0.trans hx2
    replace c0 := hx2.cell_some c0
    replace d0 := hx2.cell_some d0
    clear hx2 d1 d2
    have r0 : w2.cell? ⟨w.heap.size + 1 + 1, 0, none⟩ = some (.int .i64 0) := hx.cell_some (by (repeat (first | (refine cell_new ?_ ?_; (· (simp; done)); (· rfl)) | apply cell_old)))
    have r1 : w2.cell? ⟨w.heap.size + 1 + 1, 1, none⟩ = some (.int .i64 0) := hx.cell_some (by (repeat (first | (refine cell_new ?_ ?_; (· (simp; done)); (· rfl)) | apply cell_old)))
    have r2 : w2.cell? ⟨w.heap.size + 1 + 1, 2, none⟩ = some (.string ⟨#[]⟩) := hx.cell_some (by (repeat (first | (refine cell_new ?_ ?_; (· (simp; done)); (· rfl)) | apply cell_old)))
    have f0 : w2.frozen? ⟨w.heap.size + 1 + 1, 0, none⟩ = false := Ext.frozen_is hx (by simp) (by (repeat (first | (refine frozen_new ?_; (simp; done)) | (refine frozen_old ?_ ?_; (· (simp <;> omega))))))
    have f1 : w2.frozen? ⟨w.heap.size + 1 + 1, 1, none⟩ = false := Ext.frozen_is hx (by simp) (by (repeat (first | (refine frozen_new ?_; (simp; done)) | (refine frozen_old ?_ ?_; (· (simp <;> omega))))))
    have f2 : w2.frozen? ⟨w.heap.size + 1 + 1, 2, none⟩ = false := Ext.frozen_is hx (by simp) (by (repeat (first | (refine frozen_new ?_; (simp; done)) | (refine frozen_old ?_ ?_; (· (simp <;> omega))))))
    clear hx
    cases hb : codeOk L' W' o' with
    | false =>
      clear hc'
      go_wp2
      refine bodyPost_ret (v := .tuple #[.agg #[.int .i64 0, .int .i64 0, .string ⟨#[]⟩], .bool false]) ?_ rfl ⟨rfl, ((hx0.setCell (by simp; omega) _).setCell (by simp; omega) _).setCell (by simp; omega) _⟩
      simp [results, Tryz.results6, go_sem, r0, r1, r2]
    | true =>
      have hne : (L != L') = true := by simpa [hb] using hc'
      clear hc'
      go_wp2
      refine bodyPost_ret (v := .tuple #[.agg #[.int .i64 0, .int .i64 0, .string ⟨#[]⟩], .bool false]) ?_ rfl ⟨rfl, ((hx0.setCell (by simp; omega) _).setCell (by simp; omega) _).setCell (by simp; omega) _⟩
      simp [results, Tryz.results6, go_sem, r0, r1, r2]

set_option maxHeartbeats 1000000 in
theorem spec_ComposeCodes_no (L W L' W' : Int) (o o' : ByteArray) (w : World) (ho : o.size ≤ maxLen) (ho' : o'.size ≤ maxLen) (h : (codeOk L W o && (codeOk L' W' o' && decide (L = L'))) = false) :
    Calls Tryz.prog 7 #[.agg #[.int .i64 L, .int .i64 W, .string o], .agg #[.int .i64 L', .int .i64 W', .string o']] w fun e w' => e = .returned (.tuple #[.agg #[.int .i64 0, .int .i64 0, .string ⟨#[]⟩], .bool false]) ∧ Ext w w' := by
  cases hc : codeOk L W o with
  | false =>
    clear h
    go_enter Tryz.func7, Tryz.ntmps7
    go_wp2_with fail
    refine (spec_IsCode_any _ _ _ _ ho).mono ?_
    rintro e w1 ⟨rfl, hx⟩
    rw [hc]
    have r0 : w1.cell? ⟨w.heap.size + 1 + 1, 0, none⟩ = some (.int .i64 0) := hx.cell_some (by (repeat (first | (refine cell_new ?_ ?_; (· (simp; done)); (· rfl)) | apply cell_old)))
    have r1 : w1.cell? ⟨w.heap.size + 1 + 1, 1, none⟩ = some (.int .i64 0) := hx.cell_some (by (repeat (first | (refine cell_new ?_ ?_; (· (simp; done)); (· rfl)) | apply cell_old)))
    have r2 : w1.cell? ⟨w.heap.size + 1 + 1, 2, none⟩ = some (.string ⟨#[]⟩) := hx.cell_some (by (repeat (first | (refine cell_new ?_ ?_; (· (simp; done)); (· rfl)) | apply cell_old)))
    have f0 : w1.frozen? ⟨w.heap.size + 1 + 1, 0, none⟩ = false := Ext.frozen_is hx (by simp) (by (repeat (first | (refine frozen_new ?_; (simp; done)) | (refine frozen_old ?_ ?_; (· (simp <;> omega))))))
    have f1 : w1.frozen? ⟨w.heap.size + 1 + 1, 1, none⟩ = false := Ext.frozen_is hx (by simp) (by (repeat (first | (refine frozen_new ?_; (simp; done)) | (refine frozen_old ?_ ?_; (· (simp <;> omega))))))
    have f2 : w1.frozen? ⟨w.heap.size + 1 + 1, 2, none⟩ = false := Ext.frozen_is hx (by simp) (by (repeat (first | (refine frozen_new ?_; (simp; done)) | (refine frozen_old ?_ ?_; (· (simp <;> omega))))))
    have hx0 := (((Ext.alloc _ _).trans (Ext.alloc _ _)).trans (Ext.alloc _ _)).trans hx
    clear hx
    go_wp2
    refine bodyPost_ret (v := .tuple #[.agg #[.int .i64 0, .int .i64 0, .string ⟨#[]⟩], .bool false]) ?_ rfl ⟨rfl, ((hx0.setCell (by simp; omega) _).setCell (by simp; omega) _).setCell (by simp; omega) _⟩
    simp [results, Tryz.results7, go_sem, r0, r1, r2]
  | true =>
    have hc' : (codeOk L' W' o' && decide (L = L')) = false := by simpa [hc] using h
    clear h
    go_enter Tryz.func7, Tryz.ntmps7
    go_wp2_with fail
    refine (spec_IsCode_any _ _ _ _ ho).mono ?_
    rintro e w1 ⟨rfl, hx⟩
    rw [hc]
    have c0 : w1.cell? ⟨w.heap.size, 0, none⟩ = some (.int .i64 L) := hx.cell_some (by (repeat (first | (refine cell_new ?_ ?_; (· (simp; done)); (· rfl)) | apply cell_old)))
    have d0 : w1.cell? ⟨w.heap.size + 1, 0, none⟩ = some (.int .i64 L') := hx.cell_some (by (repeat (first | (refine cell_new ?_ ?_; (· (simp; done)); (· rfl)) | apply cell_old)))
    have d1 : w1.cell? ⟨w.heap.size + 1, 1, none⟩ = some (.int .i64 W') := hx.cell_some (by (repeat (first | (refine cell_new ?_ ?_; (· (simp; done)); (· rfl)) | apply cell_old)))
    have d2 : w1.cell? ⟨w.heap.size + 1, 2, none⟩ = some (.string o') := hx.cell_some (by (repeat (first | (refine cell_new ?_ ?_; (· (simp; done)); (· rfl)) | apply cell_old)))
    have hx0 := (((Ext.alloc _ _).trans (Ext.alloc _ _)).trans (Ext.alloc _ _)).trans hx
    go_wp2_with fail
    refine (spec_IsCode_any _ _ _ _ ho').mono ?_
    rintro e w2 ⟨rfl, hx2⟩
    replace hx := hx.trans hx2
    replace hx0 := hx0.trans hx2
    replace c0 := hx2.cell_some c0
    replace d0 := hx2.cell_some d0
    clear hx2 d1 d2
    have r0 : w2.cell? ⟨w.heap.size + 1 + 1, 0, none⟩ = some (.int .i64 0) := hx.cell_some (by (repeat (first | (refine cell_new ?_ ?_; (· (simp; done)); (· rfl)) | apply cell_old)))
    have r1 : w2.cell? ⟨w.heap.size + 1 + 1, 1, none⟩ = some (.int .i64 0) := hx.cell_some (by (repeat (first | (refine cell_new ?_ ?_; (· (simp; done)); (· rfl)) | apply cell_old)))
    have r2 : w2.cell? ⟨w.heap.size + 1 + 1, 2, none⟩ = some (.string ⟨#[]⟩) := hx.cell_some (by (repeat (first | (refine cell_new ?_ ?_; (· (simp; done)); (· rfl)) | apply cell_old)))
    have f0 : w2.frozen? ⟨w.heap.size + 1 + 1, 0, none⟩ = false := Ext.frozen_is hx (by simp) (by (repeat (first | (refine frozen_new ?_; (simp; done)) | (refine frozen_old ?_ ?_; (· (simp <;> omega))))))
    have f1 : w2.frozen? ⟨w.heap.size + 1 + 1, 1, none⟩ = false := Ext.frozen_is hx (by simp) (by (repeat (first | (refine frozen_new ?_; (simp; done)) | (refine frozen_old ?_ ?_; (· (simp <;> omega))))))
    have f2 : w2.frozen? ⟨w.heap.size + 1 + 1, 2, none⟩ = false := Ext.frozen_is hx (by simp) (by (repeat (first | (refine frozen_new ?_; (simp; done)) | (refine frozen_old ?_ ?_; (· (simp <;> omega))))))
    clear hx
    cases hb : codeOk L' W' o' with
    | false =>
      clear hc'
      go_wp2
      refine bodyPost_ret (v := .tuple #[.agg #[.int .i64 0, .int .i64 0, .string ⟨#[]⟩], .bool false]) ?_ rfl ⟨rfl, ((hx0.setCell (by simp; omega) _).setCell (by simp; omega) _).setCell (by simp; omega) _⟩
      simp [results, Tryz.results7, go_sem, r0, r1, r2]
    | true =>
      have hne : (L != L') = true := by simpa [hb] using hc'
      clear hc'
      go_wp2
      refine bodyPost_ret (v := .tuple #[.agg #[.int .i64 0, .int .i64 0, .string ⟨#[]⟩], .bool false]) ?_ rfl ⟨rfl, ((hx0.setCell (by simp; omega) _).setCell (by simp; omega) _).setCell (by simp; omega) _⟩
      simp [results, Tryz.results7, go_sem, r0, r1, r2]

set_option maxHeartbeats 1000000 in
theorem impl_ComposeCodes_yes (K n m : Nat) (o o' : ByteArray) (w : World) (hc : codeOk K n o = true) (hc' : codeOk K m o' = true) (hf : CodeFit K n o) (hf' : CodeFit K m o') (r : Value) (b : Bool)
    (hr : if wideOk K ((n + m - 1 : Nat) : Int) = true then r = .agg #[.int .i64 K, .int .i64 (n + m - 1 : Nat), .string (mkS ((wordsL K (n + m - 1)).map (composeL K m o o')))] ∧ b = true else r = .agg #[.int .i64 0, .int .i64 0, .string ⟨#[]⟩] ∧ b = false) :
    Calls Tryz.prog 6 #[.agg #[.int .i64 K, .int .i64 n, .string o], .agg #[.int .i64 K, .int .i64 m, .string o']] w fun e w' => e = .returned (.tuple #[r, .bool b]) ∧ Ext w w' := by
  have ho : o.size ≤ maxLen := by have := hf.size; have := hf.le; unfold maxLen; omega
  have ho' : o'.size ≤ maxLen := by have := hf'.size; have := hf'.le; unfold maxLen; omega
  have hn1 := hf.n1
  have hn4 := hf.n4
  have hm1 := hf'.n1
  have hm4 := hf'.n4
  have hk2 := hf.k2
  have hk3 := hf.k3
  have HR := Lib.hid hr
  have e1 : ((n + m - 1 : Nat) : Int) = (n : Int) + (m : Int) - 1 := by omega
  have E1 := Lib.hid e1
  clear hr e1
  go_enter Tryz.func6, Tryz.ntmps6
  go_wp2_with fail
  refine (impl_IsCode_any _ _ _ _ ho).mono ?_
  rintro e w1 ⟨rfl, hx⟩
  rw [hc]
  have d0 : w1.cell? ⟨w.heap.size + 1, 0, none⟩ = some (.int .i64 K) := hx.cell_some (by (repeat (first | (refine cell_new ?_ ?_; (· (simp; done)); (· rfl)) | apply cell_old)))
  have d1 : w1.cell? ⟨w.heap.size + 1, 1, none⟩ = some (.int .i64 m) := hx.cell_some (by (repeat (first | (refine cell_new ?_ ?_; (· (simp; done)); (· rfl)) | apply cell_old)))
  have d2 : w1.cell? ⟨w.heap.size + 1, 2, none⟩ = some (.string o') := hx.cell_some (by (repeat (first | (refine cell_new ?_ ?_; (· (simp; done)); (· rfl)) | apply cell_old)))
  have hx0 := (((Ext.alloc _ _).trans (Ext.alloc _ _)).trans (Ext.alloc _ _)).trans hx
  have c0 : w1.cell? ⟨w.heap.size, 0, none⟩ = some (.int .i64 K) := hx.cell_some (by (repeat (first | (refine cell_new ?_ ?_; (· (simp; done)); (· rfl)) | apply cell_old)))
  have c1 : w1.cell? ⟨w.heap.size, 1, none⟩ = some (.int .i64 n) := hx.cell_some (by (repeat (first | (refine cell_new ?_ ?_; (· (simp; done)); (· rfl)) | apply cell_old)))
  have c2 : w1.cell? ⟨w.heap.size, 2, none⟩ = some (.string o) := hx.cell_some (by (repeat (first | (refine cell_new ?_ ?_; (· (simp; done)); (· rfl)) | apply cell_old)))
  go_wp2_with fail
  refine (impl_IsCode_any _ _ _ _ ho').mono ?_
  rintro e w2 ⟨rfl, hx2⟩
  rw [hc']
  replace hx := hx.trans hx2
  replace hx0 := hx0.trans hx2
  obtain ⟨c0', c1', c2'⟩ := cellsCode hx2 c0 c1 c2
  obtain ⟨d0', d1', d2'⟩ := cellsCode hx2 d0 d1 d2
  clear hx2 c0 c1 c2 d0 d1 d2
  have r0 : w2.cell? ⟨w.heap.size + 1 + 1, 0, none⟩ = some (.int .i64 0) := hx.cell_some (by (repeat (first | (refine cell_new ?_ ?_; (· (simp; done)); (· rfl)) | apply cell_old)))
  have r1 : w2.cell? ⟨w.heap.size + 1 + 1, 1, none⟩ = some (.int .i64 0) := hx.cell_some (by (repeat (first | (refine cell_new ?_ ?_; (· (simp; done)); (· rfl)) | apply cell_old)))
  have r2 : w2.cell? ⟨w.heap.size + 1 + 1, 2, none⟩ = some (.string ⟨#[]⟩) := hx.cell_some (by (repeat (first | (refine cell_new ?_ ?_; (· (simp; done)); (· rfl)) | apply cell_old)))
  have f0 : w2.frozen? ⟨w.heap.size + 1 + 1, 0, none⟩ = false := Ext.frozen_is hx (by simp) (by (repeat (first | (refine frozen_new ?_; (simp; done)) | (refine frozen_old ?_ ?_; (· (simp <;> omega))))))
  have f1 : w2.frozen? ⟨w.heap.size + 1 + 1, 1, none⟩ = false := Ext.frozen_is hx (by simp) (by (repeat (first | (refine frozen_new ?_; (simp; done)) | (refine frozen_old ?_ ?_; (· (simp <;> omega))))))
  have f2 : w2.frozen? ⟨w.heap.size + 1 + 1, 2, none⟩ = false := Ext.frozen_is hx (by simp) (by (repeat (first | (refine frozen_new ?_; (simp; done)) | (refine frozen_old ?_ ?_; (· (simp <;> omega))))))
  have hsz : w.heap.size + 2 < w2.heap.size := by have := hx.size; simp at this; omega
  clear hx
  go_wp2_with fail
  rw [← E1.out]
  have key : Calls Tryz.prog 26 #[.int .i64 K, .int .i64 (n + m - 1 : Nat), .func (.func 27) #[] #[.pointer (some ⟨w.heap.size, 0, none⟩), .pointer (some ⟨w.heap.size + 1, 0, none⟩)]] w2 fun e w' => e = .returned (.tuple #[r, .bool b]) ∧ Ext w2 w' := by
    have hr := HR.out
    split at hr
    · rename_i hw
      obtain ⟨rfl, rfl⟩ := hr
      refine impl_madeCode_yes K (n + m - 1) _ _ (composeL K m o o') w2 hw made_cf2 fun u w' hu hxu => ?_
      obtain ⟨hul, hua⟩ := mem_wordsL hu (by omega) hk3
      obtain ⟨p0, p1, p2⟩ := cellsCode hxu c0' c1' c2'
      obtain ⟨q0, q1, q2⟩ := cellsCode hxu d0' d1' d2'
      exact compose1_any K n m o o' u _ _ w' hf hf' p0 p1 p2 q0 q1 q2 hul hua
    · rename_i hw
      obtain ⟨rfl, rfl⟩ := hr
      exact impl_madeCode_no _ _ _ _ (by simpa using hw)
  refine key.mono ?_
  rintro e w3 ⟨rfl, hx3⟩
  have g0 := (Below.frozen (p := ⟨w.heap.size + 1 + 1, 0, none⟩) hx3 (World.block_lt_of_cell? w2 _ r0)).trans f0
  have g1 := (Below.frozen (p := ⟨w.heap.size + 1 + 1, 1, none⟩) hx3 (World.block_lt_of_cell? w2 _ r1)).trans f1
  have g2 := (Below.frozen (p := ⟨w.heap.size + 1 + 1, 2, none⟩) hx3 (World.block_lt_of_cell? w2 _ r2)).trans f2
  obtain ⟨r0', r1', r2'⟩ := cellsCode hx3 r0 r1 r2
  have hx4 := hx0.trans hx3
  clear c0' c1' c2' d0' d1' d2' hx0 hx3 r0 r1 r2 f0 f1 f2 key
  have hr := HR.out
  split at hr
  all_goals
    obtain ⟨rfl, rfl⟩ := hr
    go_wp2
    refine bodyPost_ret ?_ rfl ⟨rfl, ((hx4.setCell (by simp; omega) _).setCell (by simp; omega) _).setCell (by simp; omega) _⟩
    simp [results, Tryz.results6, go_sem, r0', r1', r2']
end Go.Proofs.YtgaeeibcfoppbaaGreatDoor

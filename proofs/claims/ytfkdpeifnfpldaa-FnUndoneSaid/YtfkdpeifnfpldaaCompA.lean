/- Contracts: the program's ComposeCodes. -/
import Derived.Test.YtfkdpeifnfpldaaPkC
import Derived.Test.YtfkdpeifnfpldaaApplyD
namespace Go.Proofs.Ytfkdpeifnfpldaa
open Go.RowKit Go.Cm

theorem cellsCode {w w' : World} {b : Nat} {L W : Int} {o : ByteArray} (hx : Ext w w') (c0 : w.cell? ⟨b, 0, none⟩ = some (.int .i64 L)) (c1 : w.cell? ⟨b, 1, none⟩ = some (.int .i64 W)) (c2 : w.cell? ⟨b, 2, none⟩ = some (.string o)) :
    w'.cell? ⟨b, 0, none⟩ = some (.int .i64 L) ∧ w'.cell? ⟨b, 1, none⟩ = some (.int .i64 W) ∧ w'.cell? ⟨b, 2, none⟩ = some (.string o) :=
  ⟨hx.cell_some c0, hx.cell_some c1, hx.cell_some c2⟩

set_option maxHeartbeats 1000000 in
theorem spec_ComposeCodes_no (L W L' W' : Int) (o o' : ByteArray) (w : World) (ho : o.size ≤ maxLen) (ho' : o'.size ≤ maxLen) (h : (codeOk L W o && (codeOk L' W' o' && decide (L = L'))) = false) :
    Calls Try.prog 70 #[.agg #[.int .i64 L, .int .i64 W, .string o], .agg #[.int .i64 L', .int .i64 W', .string o']] w fun e w' => e = .returned (.tuple #[.agg #[.int .i64 0, .int .i64 0, .string ⟨#[]⟩], .bool false]) ∧ Ext w w' := by
  cases hc : codeOk L W o with
  | false =>
    clear h
    go_enter Try.func70, Try.ntmps70
    go_wp2_with fail
    refine (spec_IsCode_any _ _ _ _ ho).mono ?_
    rintro e w1 ⟨rfl, hx⟩
    rw [hc]
    have r0 : w1.cell? ⟨w.heap.size + 1 + 1, 0, none⟩ = some (.int .i64 0) := hx.cell_some (by (repeat (first | (refine cell_new ?_ ?_; (· (simp; done)); (· rfl)) | apply cell_old)))
    have r1 : w1.cell? ⟨w.heap.size + 1 + 1, 1, none⟩ = some (.int .i64 0) := hx.cell_some (by (repeat (first | (refine cell_new ?_ ?_; (· (simp; done)); (· rfl)) | apply cell_old)))
    have r2 : w1.cell? ⟨w.heap.size + 1 + 1, 2, none⟩ = some (.string ⟨#[]⟩) := hx.cell_some (by (repeat (first | (refine cell_new ?_ ?_; (· (simp; done)); (· rfl)) | apply cell_old)))
    have f0 : w1.frozen? ⟨w.heap.size + 1 + 1, 0, none⟩ = false := Ext.frozen_is hx (by simp) (by (repeat (first | (refine frozen_new ?_; (simp; done)) | (refine frozen_old ?_ ?_; (· (simp <;> omega))))))
    have f1 : w1.frozen? ⟨w.heap.size + 1 + 1, 1, none⟩ = false := Ext.frozen_is hx (by simp) (by (repeat (first | (refine frozen_new ?_; (simp; done)) | (refine frozen_old ?_ ?_; (· (simp <;> omega))))))
    have f2 : w1.frozen? ⟨w.heap.size + 1 + 1, 2, none⟩ = false := Ext.frozen_is hx (by simp) (by (repeat (first | (refine frozen_new ?_; (simp; done)) | (refine frozen_old ?_ ?_; (· (simp <;> omega))))))
    have hx0 := (((Ext.alloc _ _).trans (Ext.alloc _ _)).trans (Ext.alloc _ _)).trans hx
    clear hx
    go_wp2
    refine bodyPost_ret (v := .tuple #[.agg #[.int .i64 0, .int .i64 0, .string ⟨#[]⟩], .bool false]) ?_ rfl ⟨rfl, ((hx0.setCell (by simp; omega) _).setCell (by simp; omega) _).setCell (by simp; omega) _⟩
    simp [results, Try.results70, go_sem, r0, r1, r2]
  | true =>
    have hc' : (codeOk L' W' o' && decide (L = L')) = false := by simpa [hc] using h
    clear h
    go_enter Try.func70, Try.ntmps70
    go_wp2_with fail
    refine (spec_IsCode_any _ _ _ _ ho).mono ?_
    rintro e w1 ⟨rfl, hx⟩
    rw [hc]
    have c0 : w1.cell? ⟨w.heap.size, 0, none⟩ = some (.int .i64 L) := hx.cell_some (by (repeat (first | (refine cell_new ?_ ?_; (· (simp; done)); (· rfl)) | apply cell_old)))
    have d0 : w1.cell? ⟨w.heap.size + 1, 0, none⟩ = some (.int .i64 L') := hx.cell_some (by (repeat (first | (refine cell_new ?_ ?_; (· (simp; done)); (· rfl)) | apply cell_old)))
    have d1 : w1.cell? ⟨w.heap.size + 1, 1, none⟩ = some (.int .i64 W') := hx.cell_some (by (repeat (first | (refine cell_new ?_ ?_; (· (simp; done)); (· rfl)) | apply cell_old)))
    have d2 : w1.cell? ⟨w.heap.size + 1, 2, none⟩ = some (.string o') := hx.cell_some (by (repeat (first | (refine cell_new ?_ ?_; (· (simp; done)); (· rfl)) | apply cell_old)))
    have hx0 := (((Ext.alloc _ _).trans (Ext.alloc _ _)).trans (Ext.alloc _ _)).trans hx
    go_wp2_with fail
    refine (spec_IsCode_any _ _ _ _ ho').mono ?_
    rintro e w2 ⟨rfl, hx2⟩
    replace hx := hx.trans hx2
    replace hx0 := hx0.trans hx2
    replace c0 := hx2.cell_some c0
    replace d0 := hx2.cell_some d0
    clear hx2 d1 d2
    have r0 : w2.cell? ⟨w.heap.size + 1 + 1, 0, none⟩ = some (.int .i64 0) := hx.cell_some (by (repeat (first | (refine cell_new ?_ ?_; (· (simp; done)); (· rfl)) | apply cell_old)))
    have r1 : w2.cell? ⟨w.heap.size + 1 + 1, 1, none⟩ = some (.int .i64 0) := hx.cell_some (by (repeat (first | (refine cell_new ?_ ?_; (· (simp; done)); (· rfl)) | apply cell_old)))
    have r2 : w2.cell? ⟨w.heap.size + 1 + 1, 2, none⟩ = some (.string ⟨#[]⟩) := hx.cell_some (by (repeat (first | (refine cell_new ?_ ?_; (· (simp; done)); (· rfl)) | apply cell_old)))
    have f0 : w2.frozen? ⟨w.heap.size + 1 + 1, 0, none⟩ = false := Ext.frozen_is hx (by simp) (by (repeat (first | (refine frozen_new ?_; (simp; done)) | (refine frozen_old ?_ ?_; (· (simp <;> omega))))))
    have f1 : w2.frozen? ⟨w.heap.size + 1 + 1, 1, none⟩ = false := Ext.frozen_is hx (by simp) (by (repeat (first | (refine frozen_new ?_; (simp; done)) | (refine frozen_old ?_ ?_; (· (simp <;> omega))))))
    have f2 : w2.frozen? ⟨w.heap.size + 1 + 1, 2, none⟩ = false := Ext.frozen_is hx (by simp) (by (repeat (first | (refine frozen_new ?_; (simp; done)) | (refine frozen_old ?_ ?_; (· (simp <;> omega))))))
    clear hx
    cases hb : codeOk L' W' o' with
    | false =>
      clear hc'
      go_wp2
      refine bodyPost_ret (v := .tuple #[.agg #[.int .i64 0, .int .i64 0, .string ⟨#[]⟩], .bool false]) ?_ rfl ⟨rfl, ((hx0.setCell (by simp; omega) _).setCell (by simp; omega) _).setCell (by simp; omega) _⟩
      simp [results, Try.results70, go_sem, r0, r1, r2]
    | true =>
      have hne : (L != L') = true := by simpa [hb] using hc'
      clear hc'
      go_wp2
      refine bodyPost_ret (v := .tuple #[.agg #[.int .i64 0, .int .i64 0, .string ⟨#[]⟩], .bool false]) ?_ rfl ⟨rfl, ((hx0.setCell (by simp; omega) _).setCell (by simp; omega) _).setCell (by simp; omega) _⟩
      simp [results, Try.results70, go_sem, r0, r1, r2]

end Go.Proofs.Ytfkdpeifnfpldaa

/- Contracts: whether sources of a word are sought. -/
import Derived.Test.YtfkdpeifnfpldaaApplyD
namespace Go.Proofs.Ytfkdpeifnfpldaa
open Go.RowKit Go.Cm

/-- sources are sought of this word -/
def soughtOk (L W : Int) (o s : ByteArray) : Bool := codeOk L W o && (wordOk L s && decide (s.size ≤ 8))

set_option maxHeartbeats 1000000 in
theorem impl_isSought_any (L W : Int) (o s : ByteArray) (w : World) (ho : o.size ≤ maxLen) (hs : s.size ≤ maxLen) :
    Calls Try.prog 47 #[.agg #[.int .i64 L, .int .i64 W, .string o], .string s] w fun e w' => e = .returned (.bool (soughtOk L W o s)) ∧ Ext w w' := by
  have hs' : s.size ≤ 9223372036854775807 := by unfold maxLen at hs; omega
  cases hc : codeOk L W o with
  | false =>
    go_enter Try.func47, Try.ntmps47
    go_wp2_with fail
    refine (impl_IsCode_any _ _ _ _ ho).mono ?_
    rintro e w1 ⟨rfl, hx⟩
    rw [hc]
    replace hx := (Ext.alloc _ _).trans hx
    go_wp2
    go_ret
    exact ⟨ret_bool (by simp [soughtOk, hc]), hx⟩
  | true =>
    go_enter Try.func47, Try.ntmps47
    go_wp2_with fail
    refine (impl_IsCode_any _ _ _ _ ho).mono ?_
    rintro e w1 ⟨rfl, hx⟩
    rw [hc]
    have c0 : w1.cell? ⟨w.heap.size, 0, none⟩ = some (.int .i64 L) := hx.cell_some (by simp)
    replace hx := (Ext.alloc _ _).trans hx
    go_wp2_with fail
    refine (impl_IsWord_any _ _ _ hs).mono ?_
    rintro e w2 ⟨rfl, rfl⟩
    cases hw : wordOk L s with
    | false =>
      go_wp2
      go_ret
      exact ⟨ret_bool (by simp [soughtOk, hc, hw]), hx⟩
    | true =>
      go_wp2
      go_ret
      exact ⟨ret_bool (by simp [soughtOk, hc, hw]; omega), hx⟩

set_option maxHeartbeats 1000000 in
theorem spec_l12Fits_any (L W : Int) (o s : ByteArray) (w : World) (ho : o.size ≤ maxLen) (hs : s.size ≤ maxLen) :
    Calls Try.prog 49 #[.agg #[.int .i64 L, .int .i64 W, .string o], .string s] w fun e w' => e = .returned (.bool (soughtOk L W o s)) ∧ Ext w w' := by
  have hs' : s.size ≤ 9223372036854775807 := by unfold maxLen at hs; omega
  cases hc : codeOk L W o with
  | false =>
    go_enter Try.func49, Try.ntmps49
    go_wp2_with fail
    refine (spec_IsCode_any _ _ _ _ ho).mono ?_
    rintro e w1 ⟨rfl, hx⟩
    rw [hc]
    replace hx := (Ext.alloc _ _).trans hx
    go_wp2
    go_ret
    exact ⟨ret_bool (by simp [soughtOk, hc]), hx⟩
  | true =>
    go_enter Try.func49, Try.ntmps49
    go_wp2_with fail
    refine (spec_IsCode_any _ _ _ _ ho).mono ?_
    rintro e w1 ⟨rfl, hx⟩
    rw [hc]
    have c0 : w1.cell? ⟨w.heap.size, 0, none⟩ = some (.int .i64 L) := hx.cell_some (by simp)
    replace hx := (Ext.alloc _ _).trans hx
    go_wp2_with fail
    refine (spec_IsWord_any _ _ _ hs).mono ?_
    rintro e w2 ⟨rfl, rfl⟩
    cases hw : wordOk L s with
    | false =>
      go_wp2
      go_ret
      exact ⟨ret_bool (by simp [soughtOk, hc, hw]), hx⟩
    | true =>
      go_wp2
      go_ret
      exact ⟨ret_bool (by simp [soughtOk, hc, hw]; omega), hx⟩
end Go.Proofs.Ytfkdpeifnfpldaa

/- Contracts of the laws' own helpers on labelled graphs: sizes, copies, comparisons. -/
import Derived.Test.YtjfgbnihnnlneaaArcRow
import Derived.Test.YtjfgbnihnnlneaaOpen
namespace Go.Proofs.Ytjfgbnihnnlneaa
open Go.RowKit

theorem infoArc : (Try.prog.info? 36).map (fun i => (i.zero, i.size, i.bytes)) = some (some (.agg #[.int .i64 0, .int .i64 0, .int .i64 0]), 3, 24) := by kernel_rfl
theorem lab_bool {a b : Bool} (h : a = b) : Ending.returned (.bool a) = .returned (.bool b) := by rw [h]

/-- an arc as a value -/
def arcV (a : Int × Int × Int) : Value := .agg #[.int .i64 a.1, .int .i64 a.2.1, .int .i64 a.2.2]

theorem toArc_any (a : Int × Int × Int) (w : World) : Calls Try.prog 20 #[arcV a] w fun e w' => e = .returned (arcV a) ∧ Ext w w' := by
  obtain ⟨x, y, z⟩ := a
  unfold arcV
  go_enter Try.func20, Try.ntmps20
  go_wp2
  refine bodyPost_ret (v := .agg #[.int .i64 x, .int .i64 y, .int .i64 z]) ?_ rfl ?_
  · simp [results, Try.results20, go_sem]
  · exact ⟨rfl, ((Ext.alloc _ _).trans (Ext.alloc _ _)).trans (Ext.alloc _ _)⟩
theorem eqArc_any (a b : Int × Int × Int) (w : World) : Calls Try.prog 21 #[arcV a, arcV b] w fun e w' => e = .returned (.bool (decide (a = b))) ∧ Ext w w' := by
  obtain ⟨x, y, z⟩ := a
  obtain ⟨x', y', z'⟩ := b
  unfold arcV
  have hd : decide ((x, y, z) = (x', y', z')) = (decide (x = x') && (decide (y = y') && decide (z = z'))) := by
    rw [Bool.eq_iff_iff]; simp
  rw [hd]
  clear hd
  by_cases h1 : x = x'
  · subst h1
    by_cases h2 : y = y'
    · subst h2
      by_cases h3 : z = z'
      · subst h3
        go_enter Try.func21, Try.ntmps21
        go_wp2
        go_ret
        exact ⟨lab_bool (by simp), (Ext.alloc _ _).trans (Ext.alloc _ _)⟩
      · have hne : (z != z') = true := by simpa using h3
        go_enter Try.func21, Try.ntmps21
        go_wp2
        go_ret
        exact ⟨lab_bool (by simp [h3]), (Ext.alloc _ _).trans (Ext.alloc _ _)⟩
    · have hne : (y != y') = true := by simpa using h2
      go_enter Try.func21, Try.ntmps21
      go_wp2
      go_ret
      exact ⟨lab_bool (by simp [h2]), (Ext.alloc _ _).trans (Ext.alloc _ _)⟩
  · have hne : (x != x') = true := by simpa using h1
    go_enter Try.func21, Try.ntmps21
    go_wp2
    go_ret
    exact ⟨lab_bool (by simp [h1]), (Ext.alloc _ _).trans (Ext.alloc _ _)⟩
theorem szArcS_any (a : Option Addr) (n c : Nat) (l : Int) (w : World) (h0 : 0 ≤ l) (h1 : l ≤ 1048576) (hn : n ≤ 9223372036854775807) :
    Calls Try.prog 12 #[.slice a n c, .int .i64 l] w fun e w' => e = .returned (.int .i64 (if l - (n : Int) < 0 then -1 else l - (n : Int))) ∧ w = w' := by
  by_cases h : l - (n : Int) < 0
  · rw [if_pos h]
    go_enter Try.func12, Try.ntmps12
    go_wp2
    go_ret
    exact ⟨rfl, rfl⟩
  · rw [if_neg h]
    go_enter Try.func12, Try.ntmps12
    go_wp2
    go_ret
    exact ⟨rfl, rfl⟩
end Go.Proofs.Ytjfgbnihnnlneaa

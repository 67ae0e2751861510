/- The law FnExactEqualCode: for every two codes the program's comparison answers as the reference's; no conditions. -/
import Derived.Test.YtnkikeckpkjafaaLawCode
namespace Go.Proofs.Ytnkikeckpkjafaa
open Go.RowKit

theorem bcell {W w1 : World} (hb : Ext W w1) : (∀ b o, b < W.heap.size → w1.cell? ⟨b, o, none⟩ = W.cell? ⟨b, o, none⟩) ∧ (∀ b o, b < W.heap.size → w1.frozen? ⟨b, o, none⟩ = W.frozen? ⟨b, o, none⟩) :=
  ⟨fun b o h => Below.cell (p := ⟨b, o, none⟩) hb h, fun b o h => Below.frozen (p := ⟨b, o, none⟩) hb h⟩

set_option maxHeartbeats 400000 in
theorem exactEqualCode_any (L W L' W' : Int) (s s' : ByteArray) (w : World) (hs : s.size ≤ maxLen) (hs' : s'.size ≤ maxLen) :
    Calls Try.prog 3 #[.agg #[.int .i64 L, .int .i64 W, .string s], .agg #[.int .i64 L', .int .i64 W', .string s']] w fun e w' => e = .returned (.bool true) ∧ Ext w w' := by
  go_enter Try.func3, Try.ntmps3
  go_wp2_with fail
  refine (szCode_any _ _ _ _ _ (by omega) (by omega) hs).mono ?_
  rintro e w1 ⟨rfl, hx1⟩
  obtain ⟨hc1, hf1⟩ := bcell hx1
  go_wp2_with fail
  · go_ret
    exact ⟨rfl, ((Ext.alloc _ _).trans (Ext.alloc _ _)).trans hx1⟩
  · have hle := leftS_le 1048576 s.size (by omega)
    have h0 : 0 ≤ leftS 1048576 s.size := by assumption
    refine (szCode_any _ _ _ _ _ h0 hle hs').mono ?_
    rintro e w2 ⟨rfl, hx2⟩
    have hx12 := hx1.trans hx2
    clear hx1 hx2 hc1 hf1
    obtain ⟨hc1, hf1⟩ := bcell hx12
    go_wp2_with fail
    · go_ret
      exact ⟨rfl, ((Ext.alloc _ _).trans (Ext.alloc _ _)).trans hx12⟩
    · have a0 : w2.cell? ⟨w.heap.size, 0, none⟩ = some (.int .i64 L) := hx12.cell_some (by simp)
      have a1 : w2.cell? ⟨w.heap.size, 1, none⟩ = some (.int .i64 W) := hx12.cell_some (by simp)
      have a2 : w2.cell? ⟨w.heap.size, 2, none⟩ = some (.string s) := hx12.cell_some (by simp)
      have b0 : w2.cell? ⟨w.heap.size + 1, 0, none⟩ = some (.int .i64 L') := hx12.cell_some (by simp)
      have b1 : w2.cell? ⟨w.heap.size + 1, 1, none⟩ = some (.int .i64 W') := hx12.cell_some (by simp)
      have b2 : w2.cell? ⟨w.heap.size + 1, 2, none⟩ = some (.string s') := hx12.cell_some (by simp)
      have hx0 := ((Ext.alloc _ _).trans (Ext.alloc _ _)).trans hx12
      clear hx12 hc1 hf1 
      refine wp_region_inv (by kernel_rfl) [.known (.agg #[.int .i64 L, .int .i64 W, .string s]), .known (.agg #[.int .i64 L, .int .i64 W, .string s]), .known (.agg #[.int .i64 L', .int .i64 W', .string s']), .known (.agg #[.int .i64 L', .int .i64 W', .string s']), .known (.bool (sameCode L W s L' W' s')), .known (.bool (sameCode L W s L' W' s'))] rfl (by kernel_rfl) ?_ ?_
      · intro vs
        refine ⟨fun w' hx hj => ?_, fun w' hx hj => ?_, fun w' hx hj => ?_, fun w' hx hj => ?_, fun w' hx hj => ?_, fun w' hx hj => ?_, trivial⟩
        · have c0 := Ext.cell_some hx a0
          have c1 := Ext.cell_some hx a1
          have c2 := Ext.cell_some hx a2
          clear hj
          go_simp
        · clear hj
          go_simp
          exact toCode_any _ _ _ _
        · have c0 := Ext.cell_some hx b0
          have c1 := Ext.cell_some hx b1
          have c2 := Ext.cell_some hx b2
          clear hj
          go_simp
        · clear hj
          go_simp
          exact toCode_any _ _ _ _
        · clear hj
          go_simp
          exact spec_EqualCode_any _ _ _ _ _ _ _
        · clear hj
          go_simp
      · intro vs w3 hx3 hk
        clear hk
        go_simp
        have hx03 := hx0.trans hx3
        replace a0 := hx3.cell_some a0
        replace a1 := hx3.cell_some a1
        replace a2 := hx3.cell_some a2
        replace b0 := hx3.cell_some b0
        replace b1 := hx3.cell_some b1
        replace b2 := hx3.cell_some b2
        clear hx0 hx3
        go_wp2_with fail
        refine wp_region_inv (by kernel_rfl) [.known (.agg #[.int .i64 L, .int .i64 W, .string s]), .known (.agg #[.int .i64 L, .int .i64 W, .string s]), .known (.agg #[.int .i64 L', .int .i64 W', .string s']), .known (.agg #[.int .i64 L', .int .i64 W', .string s']), .known (.bool (sameCode L W s L' W' s')), .known (.bool (sameCode L W s L' W' s'))] rfl (by kernel_rfl) ?_ ?_
        · intro vs
          refine ⟨fun w' hx hj => ?_, fun w' hx hj => ?_, fun w' hx hj => ?_, fun w' hx hj => ?_, fun w' hx hj => ?_, fun w' hx hj => ?_, trivial⟩
          · have c0 := Ext.cell_some hx a0
            have c1 := Ext.cell_some hx a1
            have c2 := Ext.cell_some hx a2
            clear hj
            go_simp
          · clear hj
            go_simp
            exact toCode_any _ _ _ _
          · have c0 := Ext.cell_some hx b0
            have c1 := Ext.cell_some hx b1
            have c2 := Ext.cell_some hx b2
            clear hj
            go_simp
          · clear hj
            go_simp
            exact toCode_any _ _ _ _
          · clear hj
            go_simp
            exact impl_EqualCode_any _ _ _ _ _ _ _
          · clear hj
            go_simp
        · intro vs w4 hx4 hk
          clear hk
          go_simp
          have hx04 := hx03.trans hx4
          clear hx03 hx4
          go_wp2
          go_ret
          exact ⟨rfl, hx04⟩
theorem exactEqualCode_row (L W : Int) (s : ByteArray) (L' W' : Int) (s' : ByteArray) (w : World) (_ : -9223372036854775808 ≤ L ∧ L ≤ 9223372036854775807) (_ : -9223372036854775808 ≤ W ∧ W ≤ 9223372036854775807) (hs : s.size ≤ maxLen)
    (_ : -9223372036854775808 ≤ L' ∧ L' ≤ 9223372036854775807) (_ : -9223372036854775808 ≤ W' ∧ W' ≤ 9223372036854775807) (hs' : s'.size ≤ maxLen) :
    Calls Try.prog 3 #[.agg #[.int .i64 L, .int .i64 W, .string s], .agg #[.int .i64 L', .int .i64 W', .string s']] w fun e w' => e = .returned (.bool true) ∧ Ext w w' :=
  exactEqualCode_any L W L' W' s s' w hs hs'
end Go.Proofs.Ytnkikeckpkjafaa

/- Contracts: tables of zeros, by the program and by the reference. -/
import Derived.Test.YtngbibaphakifaaDoorNumA
import Derived.Test.YtngbibaphakifaaDoorFillMath
namespace Go.Proofs.YtngbibaphakifaaDoor
open Go.RowKit Go.Mx

set_option maxHeartbeats 2000000 in
theorem impl_zeros_any (n : Nat) (w : World) (hn : n ≤ 1000) :
    Calls Tryd.prog 110 #[.int .i64 n] w fun e w' => ∃ g cap gs cs, e = .returned (.slice (some ⟨g, 0, none⟩) n cap) ∧ MTab w' w.heap.size 22 3 g n cap gs cs (tabF n n fun _ _ => 0) ∧ Ext w w' := by
  obtain ⟨c, hc⟩ : ∃ c, c = n := ⟨_, rfl⟩
  have hcn : (n : Int) = (c : Int) := by omega
  rw [show (tabF n n fun _ _ => (0 : Int)) = tabF n c fun _ _ => 0 by rw [hc]]
  have hcc : c ≤ 1000 := by omega
  clear hc
  have hmk := run_make_row' (P := Tryd.prog) 22 3 (.int .i64 0) 8 Tryd.underlying22 infoInt rfl .i64 .i64 c (by omega) (by omega)
  have hB0 : MTab (w.alloc (.cells #[] 22)) w.heap.size 22 3 w.heap.size 0 0 (fun _ => 0) (fun _ => 0) (tabF 0 c fun _ _ => 0) := MTab.nil (Own.lit w 22 [] (by simp)) _ _
  go_enter Tryd.func110, Tryd.ntmps110
  go_wp2
  go_loopw [3, 6] (fun v i wr => ∃ (k g cap : Nat) (gs cs : Nat → Nat), k ≤ n ∧ i = .int .i64 k ∧ v = .slice (some ⟨g, 0, none⟩) k cap ∧ MTab wr w.heap.size 22 3 g k cap gs cs (tabF k c fun _ _ => 0) ∧ Ext w wr) (fun _ i _ => n - (intOf i).toNat)
  case atStart => exact ⟨0, _, _, _, _, by omega, rfl, rfl, hB0, Ext.alloc _ _⟩
  case round =>
    clear hB0
    obtain ⟨k, g, cap, gs, cs, hk, rfl, rfl, ht, hx⟩ := hrel
    by_cases hlt : k < n
    · have hfull := ht.full (tabF_length _ _ _).symm
      have hgl := ht.lt
      have hgsl := ht.rowlt
      have hv1 : (rowsV gs cs (tabF k c fun _ _ => 0)).length + 1 ≤ maxLen := by rw [rowsV_length, tabF_length]; unfold maxLen; omega
      have hv2 : ((rowsV gs cs (tabF k c fun _ _ => 0)).length + 1) * 24 ≤ 140737488355328 := by rw [rowsV_length, tabF_length]; omega
      have hz : Own (wr.alloc (.cells (madeCells #[.int .i64 0] c) 3)) wr.heap.size 3 (.slice (some ⟨wr.heap.size, 0, none⟩) c c) (icells (rowF c fun _ => 0)) := by
        have := Own.made wr 3 (.int .i64 0) c (by unfold maxLen; omega)
        rw [rowF_zero, icells_replicate]; exact this
      have HS := Lib.hid (And.intro hfull (And.intro hgl (And.intro hgsl (And.intro ht (And.intro hv1 (And.intro hv2 hz))))))
      clear hfull hgl hgsl ht hv1 hv2 hz
      go_wp2_with (at_builtin; refine wpList_append_one rfl (.tmp 8) (.tmp 11) 27 rfl 22 _ _ Tryd.underlying27 infoRow rfl w.heap.size _ (rowsV gs cs (tabF k c fun _ _ => 0)) rfl ((HS.out.1.ext (Ext.alloc _ _)).ext (Ext.alloc _ _)) _ _ rfl (by simp; rfl) rfl HS.out.2.2.2.2.1 HS.out.2.2.2.2.2.1 w rfl ((hx.trans (Ext.alloc _ _)).trans (Ext.alloc _ _)) ?_; intro v4 w4 hown4 hx4 hmv4; have H4 := Lib.hid (And.intro hown4 (And.intro hx4 hmv4)); clear hown4 hx4 hmv4)
      go_roundw
      case rel =>
        have ht3 := (HS.out.2.2.2.1.ext (Ext.alloc wr (.cells (madeCells #[.int .i64 0] c) 3))).ext (Ext.alloc _ (.cells #[.slice (some ⟨wr.heap.size, 0, none⟩) c c] 22))
        have hlen3 : (rowF c fun _ => (0 : Int)).length = c := rowF_length _ _
        obtain ⟨g', cap', gs', cs', hv', ht'⟩ := ht3.push (r := rowF c fun _ => 0) (gr := wr.heap.size) (cr := c) (tabF_length _ _ _).symm (by rw [hlen3]; exact ((HS.out.2.2.2.2.2.2.mono hx.size).ext (Ext.alloc _ _))) (by have := HS.out.2.1; omega) (fun i hi => by have := HS.out.2.2.1 i hi; omega) (by rw [hlen3]; exact H4.out.1) H4.out.2.2
        rw [← tabF_succ k c fun _ _ => 0] at ht'
        exact ⟨k + 1, g', cap', gs', cs', by omega, by go_num, hv', ht', H4.out.2.1⟩
      case measure => simp [intOf]; omega
    · have hkn : k = n := by omega
      subst hkn
      go_wp2
      go_ret
      exact ⟨g, cap, gs, cs, rfl, ht, hx⟩

set_option maxHeartbeats 2000000 in
theorem spec_l4Zero_any (n c : Nat) (w : World) (hc : c ≤ 1000) (hn : n ≤ 1000) :
    Calls Tryd.prog 62 #[.int .i64 n, .int .i64 c] w fun e w' => ∃ g cap gs cs, e = .returned (.slice (some ⟨g, 0, none⟩) n cap) ∧ MTab w' w.heap.size 22 3 g n cap gs cs (tabF n c fun _ _ => 0) ∧ Ext w w' := by
  have hmk := run_make_row' (P := Tryd.prog) 22 3 (.int .i64 0) 8 Tryd.underlying22 infoInt rfl .i64 .i64 c (by omega) (by omega)
  have hB0 : MTab (w.alloc (.cells #[] 22)) w.heap.size 22 3 w.heap.size 0 0 (fun _ => 0) (fun _ => 0) (tabF 0 c fun _ _ => 0) := MTab.nil (Own.lit w 22 [] (by simp)) _ _
  go_enter Tryd.func62, Tryd.ntmps62
  go_wp2
  go_loopw [5, 6] (fun v i wr => ∃ (k g cap : Nat) (gs cs : Nat → Nat), k ≤ n ∧ i = .int .i64 k ∧ v = .slice (some ⟨g, 0, none⟩) k cap ∧ MTab wr w.heap.size 22 3 g k cap gs cs (tabF k c fun _ _ => 0) ∧ Ext w wr) (fun _ i _ => n - (intOf i).toNat)
  case atStart => exact ⟨0, _, _, _, _, by omega, rfl, rfl, hB0, Ext.alloc _ _⟩
  case round =>
    clear hB0
    obtain ⟨k, g, cap, gs, cs, hk, rfl, rfl, ht, hx⟩ := hrel
    by_cases hlt : k < n
    · have hfull := ht.full (tabF_length _ _ _).symm
      have hgl := ht.lt
      have hgsl := ht.rowlt
      have hv1 : (rowsV gs cs (tabF k c fun _ _ => 0)).length + 1 ≤ maxLen := by rw [rowsV_length, tabF_length]; unfold maxLen; omega
      have hv2 : ((rowsV gs cs (tabF k c fun _ _ => 0)).length + 1) * 24 ≤ 140737488355328 := by rw [rowsV_length, tabF_length]; omega
      have hz : Own (wr.alloc (.cells (madeCells #[.int .i64 0] c) 3)) wr.heap.size 3 (.slice (some ⟨wr.heap.size, 0, none⟩) c c) (icells (rowF c fun _ => 0)) := by
        have := Own.made wr 3 (.int .i64 0) c (by unfold maxLen; omega)
        rw [rowF_zero, icells_replicate]; exact this
      have HS := Lib.hid (And.intro hfull (And.intro hgl (And.intro hgsl (And.intro ht (And.intro hv1 (And.intro hv2 hz))))))
      clear hfull hgl hgsl ht hv1 hv2 hz
      go_wp2_with (at_builtin; refine wpList_append_one rfl (.tmp 13) (.tmp 16) 27 rfl 22 _ _ Tryd.underlying27 infoRow rfl w.heap.size _ (rowsV gs cs (tabF k c fun _ _ => 0)) rfl ((HS.out.1.ext (Ext.alloc _ _)).ext (Ext.alloc _ _)) _ _ rfl (by simp; rfl) rfl HS.out.2.2.2.2.1 HS.out.2.2.2.2.2.1 w rfl ((hx.trans (Ext.alloc _ _)).trans (Ext.alloc _ _)) ?_; intro v4 w4 hown4 hx4 hmv4; have H4 := Lib.hid (And.intro hown4 (And.intro hx4 hmv4)); clear hown4 hx4 hmv4)
      go_roundw
      case rel =>
        have ht3 := (HS.out.2.2.2.1.ext (Ext.alloc wr (.cells (madeCells #[.int .i64 0] c) 3))).ext (Ext.alloc _ (.cells #[.slice (some ⟨wr.heap.size, 0, none⟩) c c] 22))
        have hlen3 : (rowF c fun _ => (0 : Int)).length = c := rowF_length _ _
        obtain ⟨g', cap', gs', cs', hv', ht'⟩ := ht3.push (r := rowF c fun _ => 0) (gr := wr.heap.size) (cr := c) (tabF_length _ _ _).symm (by rw [hlen3]; exact ((HS.out.2.2.2.2.2.2.mono hx.size).ext (Ext.alloc _ _))) (by have := HS.out.2.1; omega) (fun i hi => by have := HS.out.2.2.1 i hi; omega) (by rw [hlen3]; exact H4.out.1) H4.out.2.2
        rw [← tabF_succ k c fun _ _ => 0] at ht'
        exact ⟨k + 1, g', cap', gs', cs', by omega, by go_num, hv', ht', H4.out.2.1⟩
      case measure => simp [intOf]; omega
    · have hkn : k = n := by omega
      subst hkn
      go_wp2
      go_ret
      exact ⟨g, cap, gs, cs, rfl, ht, hx⟩
end Go.Proofs.YtngbibaphakifaaDoor

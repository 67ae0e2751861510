/- Several texts of mine in one: Facts, LawMat, LawMatB, LawRes, L1In, NumA, ZeroA, MatA, MatB, JoinA, JoinB, LawCode, CodeA, CodeB, WordA, Made, Frame, Open. -/
import Derived.Test.YtdngkfedkgiioaaDoorRows
import Derived.Test.YtdngkfedkgiioaaDoorPkA
import Derived.WalkLawsBesides
import Derived.Lib.Hide
import Derived.WalkKit
import Derived.WalkSpells
import Derived.Test.YtdngkfedkgiioaaDoorPkB
import Derived.BigQuiet
/- Closed facts on types of this translation. -/
namespace Go.Proofs.YtdngkfedkgiioaaDoor
theorem infoU8 : (Tryd.prog.info? 5).map (fun i => (i.zero, i.size, i.bytes)) = some (some (.int .u8 0), 1, 1) := by kernel_rfl
theorem infoInt : (Tryd.prog.info? 3).map (fun i => (i.zero, i.size, i.bytes)) = some (some (.int .i64 0), 1, 8) := by kernel_rfl
theorem infoStr : (Tryd.prog.info? 9).map (fun i => (i.zero, i.size, i.bytes)) = some (some (.string ⟨#[]⟩), 1, 16) := by kernel_rfl
end Go.Proofs.YtdngkfedkgiioaaDoor

/- Contracts of the laws' own helpers on lists and tables of numbers: sizes, copies, comparisons, marks. -/
namespace Go.Proofs.YtdngkfedkgiioaaDoor
open Go.RowKit

theorem infoRow : (Tryd.prog.info? 26).map (fun i => (i.zero, i.size, i.bytes)) = some (some (.slice none 0 0), 1, 24) := by kernel_rfl
theorem ret_int {k : IntKind} {a b : Int} (h : a = b) : Ending.returned (.int k a) = .returned (.int k b) := by rw [h]
theorem ret_bool {a b : Bool} (h : a = b) : Ending.returned (.bool a) = .returned (.bool b) := by rw [h]

/-- a row's length taken off -/
def leftR (n : Int) (k : Nat) : Int := if n - k < 0 then -1 else n - k

end Go.Proofs.YtdngkfedkgiioaaDoor

/- Contracts of the laws' own helpers on tables of numbers: copies, comparisons, marks. -/
namespace Go.Proofs.YtdngkfedkgiioaaDoor
open Go.RowKit

end Go.Proofs.YtdngkfedkgiioaaDoor

/- Results of the program's own memory, and how the laws mark them. -/
namespace Go.Proofs.YtdngkfedkgiioaaDoor
open Go.RowKit

/-- a table that the call has made, or none -/
def ResM (w : World) (B : Nat) (v : Value) (r : List (List Int)) : Prop :=
  (v = .slice none 0 0 ∧ r = []) ∨ ∃ g cap gs cs, v = .slice (some ⟨g, 0, none⟩) r.length cap ∧ MTab w B 26 3 g r.length cap gs cs r
/-- a list that the call has made, or none -/
def ResI (w : World) (B : Nat) (v : Value) (r : List Int) : Prop := Own w B 3 v (icells r)

theorem ResM.reads {w : World} {B : Nat} {v : Value} {r : List (List Int)} (h : ResM w B v r) : ReadsRows w v r := by
  rcases h with ⟨rfl, rfl⟩ | ⟨g, cap, gs, cs, rfl, ht⟩
  · exact ReadsRows.nil w _ none rfl
  · exact ht.reads rfl
theorem ResM.ext {w w' : World} {B : Nat} {v : Value} {r : List (List Int)} (h : ResM w B v r) (hx : Ext w w') : ResM w' B v r := by
  rcases h with h | ⟨g, cap, gs, cs, hv, ht⟩
  · exact .inl h
  · exact .inr ⟨g, cap, gs, cs, hv, ht.ext hx⟩
theorem ResM.mono {w : World} {B B' : Nat} {v : Value} {r : List (List Int)} (h : ResM w B v r) (hB : B' ≤ B) : ResM w B' v r := by
  rcases h with h | ⟨g, cap, gs, cs, hv, ht⟩
  · exact .inl h
  · exact .inr ⟨g, cap, gs, cs, hv, ht.mono hB⟩
theorem ResM.within {w w' : World} {B B1 C1 : Nat} {v : Value} {r : List (List Int)} (h : ResM w B v r) (k : Within B1 C1 w w') (hC : C1 ≤ B) : ResM w' B v r := by
  rcases h with h | ⟨g, cap, gs, cs, hv, ht⟩
  · exact .inl h
  · exact .inr ⟨g, cap, gs, cs, hv, ht.within k hC⟩
theorem ResI.reads {w : World} {B : Nat} {v : Value} {r : List Int} (h : ResI w B v r) : ReadsI w v r := Own.readsI h
theorem ResI.ext {w w' : World} {B : Nat} {v : Value} {r : List Int} (h : ResI w B v r) (hx : Ext w w') : ResI w' B v r := Own.ext h hx
theorem ResI.mono {w : World} {B B' : Nat} {v : Value} {r : List Int} (h : ResI w B v r) (hB : B' ≤ B) : ResI w B' v r := Own.mono h hB
theorem ResI.within {w w' : World} {B B1 C1 : Nat} {v : Value} {r : List Int} (h : ResI w B v r) (k : Within B1 C1 w w') (hC : C1 ≤ B) : ResI w' B v r := Own.within k h hC

/-- .. with a bound on its blocks -/
def ResMC (w : World) (B C : Nat) (v : Value) (r : List (List Int)) : Prop :=
  (v = .slice none 0 0 ∧ r = []) ∨ ∃ g cap gs cs, v = .slice (some ⟨g, 0, none⟩) r.length cap ∧ MTab w B 26 3 g r.length cap gs cs r ∧ ∀ i, i < r.length → gs i < C
def ResIC (w : World) (B C : Nat) (v : Value) (r : List Int) : Prop := ResI w B v r ∧ ∀ k, v.ownBlock = some k → k < C
theorem ResM.bound {w : World} {B : Nat} {v : Value} {r : List (List Int)} (h : ResM w B v r) : ResMC w B w.heap.size v r := by
  rcases h with h | ⟨g, cap, gs, cs, hv, ht⟩
  · exact .inl h
  · exact .inr ⟨g, cap, gs, cs, hv, ht, fun i hi => (ht.rowlt i hi).2⟩
theorem ResMC.res {w : World} {B C : Nat} {v : Value} {r : List (List Int)} (h : ResMC w B C v r) : ResM w B v r := by
  rcases h with h | ⟨g, cap, gs, cs, hv, ht, _⟩
  · exact .inl h
  · exact .inr ⟨g, cap, gs, cs, hv, ht⟩
theorem ResMC.reads {w : World} {B C : Nat} {v : Value} {r : List (List Int)} (h : ResMC w B C v r) : ReadsRows w v r := h.res.reads
theorem ResMC.ext {w w' : World} {B C : Nat} {v : Value} {r : List (List Int)} (h : ResMC w B C v r) (hx : Ext w w') : ResMC w' B C v r := by
  rcases h with h | ⟨g, cap, gs, cs, hv, ht, hc⟩
  · exact .inl h
  · exact .inr ⟨g, cap, gs, cs, hv, ht.ext hx, hc⟩
theorem ResMC.within {w w' : World} {B C B1 C1 : Nat} {v : Value} {r : List (List Int)} (h : ResMC w B C v r) (k : Within B1 C1 w w') (hC : C1 ≤ B) : ResMC w' B C v r := by
  rcases h with h | ⟨g, cap, gs, cs, hv, ht, hc⟩
  · exact .inl h
  · exact .inr ⟨g, cap, gs, cs, hv, ht.within k hC, hc⟩
theorem ResI.bound {w : World} {B : Nat} {v : Value} {r : List Int} (h : ResI w B v r) : ResIC w B w.heap.size v r := ⟨h, fun k hk => (World.ownsRow.lt h k hk).2⟩
theorem ResIC.reads {w : World} {B C : Nat} {v : Value} {r : List Int} (h : ResIC w B C v r) : ReadsI w v r := h.1.reads
theorem ResIC.ext {w w' : World} {B C : Nat} {v : Value} {r : List Int} (h : ResIC w B C v r) (hx : Ext w w') : ResIC w' B C v r := ⟨h.1.ext hx, h.2⟩
theorem ResIC.within {w w' : World} {B C B1 C1 : Nat} {v : Value} {r : List Int} (h : ResIC w B C v r) (k : Within B1 C1 w w') (hC : C1 ≤ B) : ResIC w' B C v r := ⟨h.1.within k hC, h.2⟩

theorem leftM_room {m : List (List Int)} {l : Int} (hl : l ≤ 1048576) (h : 0 ≤ leftM l m) : m.length ≤ 1048576 ∧ sizeM m ≤ 1048576 := by
  have := leftM_fits h
  omega
end Go.Proofs.YtdngkfedkgiioaaDoor

/- Contract: a number within bounds, by the reference. -/
namespace Go.Proofs.YtdngkfedkgiioaaDoor
open Go.RowKit

theorem ret_boolB {a b : Bool} (h : a = b) : Ending.returned (.bool a) = .returned (.bool b) := by rw [h]
theorem spec_l1In_any (x lo hi : Int) (w : World) :
    Calls Tryd.prog 55 #[.int .i64 x, .int .i64 lo, .int .i64 hi] w fun e w' => e = .returned (.bool (decide (lo ≤ x) && decide (x ≤ hi))) ∧ w = w' := by
  by_cases h : lo ≤ x
  · go_enter Tryd.func55, Tryd.ntmps55
    go_wp2
    go_ret
    exact ⟨ret_boolB (by simp [h]), rfl⟩
  · have h' : x < lo := by omega
    go_enter Tryd.func55, Tryd.ntmps55
    go_wp2
    go_ret
    exact ⟨ret_boolB (by simp; omega), rfl⟩

theorem spec_l1In_yes (x lo hi : Int) (w : World) (h1 : lo ≤ x) (h2 : x ≤ hi) :
    Calls Tryd.prog 55 #[.int .i64 x, .int .i64 lo, .int .i64 hi] w fun e w' => e = .returned (.bool true) ∧ w = w' :=
  (spec_l1In_any x lo hi w).mono fun _ _ ⟨he, hw⟩ => ⟨he.trans (ret_boolB (by simp [h1, h2])), hw⟩
theorem spec_l1In_no (x lo hi : Int) (w : World) (h : x < lo ∨ hi < x) :
    Calls Tryd.prog 55 #[.int .i64 x, .int .i64 lo, .int .i64 hi] w fun e w' => e = .returned (.bool false) ∧ w = w' :=
  (spec_l1In_any x lo hi w).mono fun _ _ ⟨he, hw⟩ => ⟨he.trans (ret_boolB (by simp; omega)), hw⟩
end Go.Proofs.YtdngkfedkgiioaaDoor

/- Contracts: small helpers of the reference on numbers. -/
namespace Go.Proofs.YtdngkfedkgiioaaDoor
open Go.RowKit

theorem spec_l1Bit_any (b : Bool) (w : World) :
    Calls Tryd.prog 73 #[.bool b] w fun e w' => e = .returned (.int .i64 (if b = true then 1 else 0)) ∧ w = w' := by
  cases b
  all_goals
    go_enter Tryd.func73, Tryd.ntmps73
    go_wp2
    go_ret
    exact ⟨rfl, rfl⟩
theorem spec_l1Max_any (x y : Int) (w : World) :
    Calls Tryd.prog 71 #[.int .i64 x, .int .i64 y] w fun e w' => e = .returned (.int .i64 (max x y)) ∧ w = w' := by
  by_cases h : y < x
  · go_enter Tryd.func71, Tryd.ntmps71
    go_wp2
    go_ret
    exact ⟨ret_int (by omega), rfl⟩
  · go_enter Tryd.func71, Tryd.ntmps71
    go_wp2
    go_ret
    exact ⟨ret_int (by omega), rfl⟩
end Go.Proofs.YtdngkfedkgiioaaDoor

/- Contracts: tables of zeros, by the program and by the reference. -/
namespace Go.Proofs.YtdngkfedkgiioaaDoor
open Go.RowKit Go.Mx

set_option maxHeartbeats 2000000 in
theorem impl_zeros_any (n : Nat) (w : World) (hn : n ≤ 1000) :
    Calls Tryd.prog 101 #[.int .i64 n] w fun e w' => ∃ g cap gs cs, e = .returned (.slice (some ⟨g, 0, none⟩) n cap) ∧ MTab w' w.heap.size 26 3 g n cap gs cs (tabF n n fun _ _ => 0) ∧ Ext w w' := by
  obtain ⟨c, hc⟩ : ∃ c, c = n := ⟨_, rfl⟩
  have hcn : (n : Int) = (c : Int) := by omega
  rw [show (tabF n n fun _ _ => (0 : Int)) = tabF n c fun _ _ => 0 by rw [hc]]
  have hcc : c ≤ 1000 := by omega
  clear hc
  have hmk := run_make_row' (P := Tryd.prog) 26 3 (.int .i64 0) 8 Tryd.underlying26 infoInt rfl .i64 .i64 c (by omega) (by omega)
  have hB0 : MTab (w.alloc (.cells #[] 26)) w.heap.size 26 3 w.heap.size 0 0 (fun _ => 0) (fun _ => 0) (tabF 0 c fun _ _ => 0) := MTab.nil (Own.lit w 26 [] (by simp)) _ _
  go_enter Tryd.func101, Tryd.ntmps101
  go_wp2
  go_loopw [3, 6] (fun v i wr => ∃ (k g cap : Nat) (gs cs : Nat → Nat), k ≤ n ∧ i = .int .i64 k ∧ v = .slice (some ⟨g, 0, none⟩) k cap ∧ MTab wr w.heap.size 26 3 g k cap gs cs (tabF k c fun _ _ => 0) ∧ Ext w wr) (fun _ i _ => n - (intOf i).toNat)
  case atStart => exact ⟨0, _, _, _, _, by omega, rfl, rfl, hB0, Ext.alloc _ _⟩
  case round =>
    clear hB0
    obtain ⟨k, g, cap, gs, cs, hk, rfl, rfl, ht, hx⟩ := hrel
    by_cases hlt : k < n
    · have hfull := ht.full (tabF_length _ _ _).symm
      have hgl := ht.lt
      have hgsl := ht.rowlt
      have hv1 : (rowsV gs cs (tabF k c fun _ _ => 0)).length + 1 ≤ maxLen := by rw [rowsV_length, tabF_length]; unfold maxLen; omega
      have hv2 : ((rowsV gs cs (tabF k c fun _ _ => 0)).length + 1) * 24 ≤ 140737488355328 := by rw [rowsV_length, tabF_length]; omega
      have hz : Own (wr.alloc (.cells (madeCells #[.int .i64 0] c) 3)) wr.heap.size 3 (.slice (some ⟨wr.heap.size, 0, none⟩) c c) (icells (rowF c fun _ => 0)) := by
        have := Own.made wr 3 (.int .i64 0) c (by unfold maxLen; omega)
        rw [rowF_zero, icells_replicate]; exact this
      have HS := Lib.hid (And.intro hfull (And.intro hgl (And.intro hgsl (And.intro ht (And.intro hv1 (And.intro hv2 hz))))))
      clear hfull hgl hgsl ht hv1 hv2 hz
      go_wp2_with (at_builtin; refine wpList_append_one rfl (.tmp 8) (.tmp 11) 24 rfl 26 _ _ Tryd.underlying24 infoRow rfl w.heap.size _ (rowsV gs cs (tabF k c fun _ _ => 0)) rfl ((HS.out.1.ext (Ext.alloc _ _)).ext (Ext.alloc _ _)) _ _ rfl (by simp; rfl) rfl HS.out.2.2.2.2.1 HS.out.2.2.2.2.2.1 w rfl ((hx.trans (Ext.alloc _ _)).trans (Ext.alloc _ _)) ?_; intro v4 w4 hown4 hx4 hmv4; have H4 := Lib.hid (And.intro hown4 (And.intro hx4 hmv4)); clear hown4 hx4 hmv4)
      go_roundw
      case rel =>
        have ht3 := (HS.out.2.2.2.1.ext (Ext.alloc wr (.cells (madeCells #[.int .i64 0] c) 3))).ext (Ext.alloc _ (.cells #[.slice (some ⟨wr.heap.size, 0, none⟩) c c] 26))
        have hlen3 : (rowF c fun _ => (0 : Int)).length = c := rowF_length _ _
        obtain ⟨g', cap', gs', cs', hv', ht'⟩ := ht3.push (r := rowF c fun _ => 0) (gr := wr.heap.size) (cr := c) (tabF_length _ _ _).symm (by rw [hlen3]; exact ((HS.out.2.2.2.2.2.2.mono hx.size).ext (Ext.alloc _ _))) (by have := HS.out.2.1; omega) (fun i hi => by have := HS.out.2.2.1 i hi; omega) (by rw [hlen3]; exact H4.out.1) H4.out.2.2
        rw [← tabF_succ k c fun _ _ => 0] at ht'
        exact ⟨k + 1, g', cap', gs', cs', by omega, by go_num, hv', ht', H4.out.2.1⟩
      case measure => simp [intOf]; omega
    · have hkn : k = n := by omega
      subst hkn
      go_wp2
      go_ret
      exact ⟨g, cap, gs, cs, rfl, ht, hx⟩

set_option maxHeartbeats 2000000 in
theorem spec_l4Zero_any (n c : Nat) (w : World) (hc : c ≤ 1000) (hn : n ≤ 1000) :
    Calls Tryd.prog 50 #[.int .i64 n, .int .i64 c] w fun e w' => ∃ g cap gs cs, e = .returned (.slice (some ⟨g, 0, none⟩) n cap) ∧ MTab w' w.heap.size 26 3 g n cap gs cs (tabF n c fun _ _ => 0) ∧ Ext w w' := by
  have hmk := run_make_row' (P := Tryd.prog) 26 3 (.int .i64 0) 8 Tryd.underlying26 infoInt rfl .i64 .i64 c (by omega) (by omega)
  have hB0 : MTab (w.alloc (.cells #[] 26)) w.heap.size 26 3 w.heap.size 0 0 (fun _ => 0) (fun _ => 0) (tabF 0 c fun _ _ => 0) := MTab.nil (Own.lit w 26 [] (by simp)) _ _
  go_enter Tryd.func50, Tryd.ntmps50
  go_wp2
  go_loopw [5, 6] (fun v i wr => ∃ (k g cap : Nat) (gs cs : Nat → Nat), k ≤ n ∧ i = .int .i64 k ∧ v = .slice (some ⟨g, 0, none⟩) k cap ∧ MTab wr w.heap.size 26 3 g k cap gs cs (tabF k c fun _ _ => 0) ∧ Ext w wr) (fun _ i _ => n - (intOf i).toNat)
  case atStart => exact ⟨0, _, _, _, _, by omega, rfl, rfl, hB0, Ext.alloc _ _⟩
  case round =>
    clear hB0
    obtain ⟨k, g, cap, gs, cs, hk, rfl, rfl, ht, hx⟩ := hrel
    by_cases hlt : k < n
    · have hfull := ht.full (tabF_length _ _ _).symm
      have hgl := ht.lt
      have hgsl := ht.rowlt
      have hv1 : (rowsV gs cs (tabF k c fun _ _ => 0)).length + 1 ≤ maxLen := by rw [rowsV_length, tabF_length]; unfold maxLen; omega
      have hv2 : ((rowsV gs cs (tabF k c fun _ _ => 0)).length + 1) * 24 ≤ 140737488355328 := by rw [rowsV_length, tabF_length]; omega
      have hz : Own (wr.alloc (.cells (madeCells #[.int .i64 0] c) 3)) wr.heap.size 3 (.slice (some ⟨wr.heap.size, 0, none⟩) c c) (icells (rowF c fun _ => 0)) := by
        have := Own.made wr 3 (.int .i64 0) c (by unfold maxLen; omega)
        rw [rowF_zero, icells_replicate]; exact this
      have HS := Lib.hid (And.intro hfull (And.intro hgl (And.intro hgsl (And.intro ht (And.intro hv1 (And.intro hv2 hz))))))
      clear hfull hgl hgsl ht hv1 hv2 hz
      go_wp2_with (at_builtin; refine wpList_append_one rfl (.tmp 13) (.tmp 16) 24 rfl 26 _ _ Tryd.underlying24 infoRow rfl w.heap.size _ (rowsV gs cs (tabF k c fun _ _ => 0)) rfl ((HS.out.1.ext (Ext.alloc _ _)).ext (Ext.alloc _ _)) _ _ rfl (by simp; rfl) rfl HS.out.2.2.2.2.1 HS.out.2.2.2.2.2.1 w rfl ((hx.trans (Ext.alloc _ _)).trans (Ext.alloc _ _)) ?_; intro v4 w4 hown4 hx4 hmv4; have H4 := Lib.hid (And.intro hown4 (And.intro hx4 hmv4)); clear hown4 hx4 hmv4)
      go_roundw
      case rel =>
        have ht3 := (HS.out.2.2.2.1.ext (Ext.alloc wr (.cells (madeCells #[.int .i64 0] c) 3))).ext (Ext.alloc _ (.cells #[.slice (some ⟨wr.heap.size, 0, none⟩) c c] 26))
        have hlen3 : (rowF c fun _ => (0 : Int)).length = c := rowF_length _ _
        obtain ⟨g', cap', gs', cs', hv', ht'⟩ := ht3.push (r := rowF c fun _ => 0) (gr := wr.heap.size) (cr := c) (tabF_length _ _ _).symm (by rw [hlen3]; exact ((HS.out.2.2.2.2.2.2.mono hx.size).ext (Ext.alloc _ _))) (by have := HS.out.2.1; omega) (fun i hi => by have := HS.out.2.2.1 i hi; omega) (by rw [hlen3]; exact H4.out.1) H4.out.2.2
        rw [← tabF_succ k c fun _ _ => 0] at ht'
        exact ⟨k + 1, g', cap', gs', cs', by omega, by go_num, hv', ht', H4.out.2.1⟩
      case measure => simp [intOf]; omega
    · have hkn : k = n := by omega
      subst hkn
      go_wp2
      go_ret
      exact ⟨g, cap, gs, cs, rfl, ht, hx⟩
end Go.Proofs.YtdngkfedkgiioaaDoor

/- Contracts: matrices, small matrices, sums and bounds, by the program. -/
namespace Go.Proofs.YtdngkfedkgiioaaDoor
open Go.RowKit Go.Mx

set_option maxHeartbeats 2000000 in
theorem impl_IsMatrix_any (v : Value) (m : List (List Int)) (w : World) (h : ReadsRows w v m) :
    Calls Tryd.prog 63 #[v] w fun e w' => e = .returned (.bool (isMat m)) ∧ w = w' := by
  obtain ⟨a, c, rfl⟩ := h.slice
  obtain ⟨-, hlc, hc⟩ := h.len
  obtain ⟨n, hn⟩ : ∃ n, n = m.length := ⟨_, rfl⟩
  rw [← hn] at hlc h ⊢
  have HM := Lib.hid (And.intro h hn)
  clear h hn
  by_cases h1 : n < 1
  · go_enter Tryd.func63, Tryd.ntmps63
    go_wp2
    go_ret
    exact ⟨ret_bool (isMat_size (by rw [← HM.out.2]; omega)).symm, rfl⟩
  by_cases h9 : 9 < n
  · go_enter Tryd.func63, Tryd.ntmps63
    go_wp2
    go_ret
    exact ⟨ret_bool (isMat_size (by rw [← HM.out.2]; omega)).symm, rfl⟩
  go_enter Tryd.func63, Tryd.ntmps63
  go_wp2
  go_loop [17] (fun i => ∃ k : Nat, k ≤ n ∧ i = .int .i64 k ∧ (m.take k).all (rowOk n) = true) (fun i => n - (intOf i).toNat)
  case atStart => exact ⟨0, by omega, rfl, by simp⟩
  case round =>
    obtain ⟨k, hk, rfl, hp⟩ := hrel
    have HP := Lib.hid hp
    clear hp
    by_cases hlt : k < n
    · have hkm : k < m.length := by rw [← HM.out.2]; exact hlt
      obtain ⟨b, o, a', c', rfl, hcell, hrow⟩ := HM.out.1.at k hkm
      obtain ⟨-, hl1, hl2⟩ := hrow.len
      obtain ⟨r, hr⟩ : ∃ r, r = m.getD k [] := ⟨_, rfl⟩
      rw [← hr] at hcell hrow hl1
      obtain ⟨L, hL⟩ : ∃ L, L = r.length := ⟨_, rfl⟩
      rw [← hL] at hcell hrow hl1
      have HR := Lib.hid (And.intro hkm (And.intro hr (And.intro hL hrow)))
      clear hkm hr hL hrow
      by_cases hLn : L = n
      · have HL := Lib.hid hLn
        have hLn1 : ((L : Int) != (n : Int)) = false := by simp [hLn]
        clear hLn
        go_wp2
        go_loop [28] (fun i => ∃ j : Nat, j ≤ L ∧ i = .int .i64 j ∧ (r.take j).all (fun x => decide (0 ≤ x ∧ x ≤ 1000000)) = true) (fun i => L - (intOf i).toNat)
        case atStart => exact ⟨0, by omega, rfl, by simp⟩
        case round =>
          obtain ⟨j, hj, rfl, hq⟩ := hrel
          have HQ := Lib.hid hq
          clear hq
          by_cases hltj : j < L
          · have hjr : j < r.length := by rw [← HR.out.2.2.1]; exact hltj
            obtain ⟨b', o', rfl, hcell'⟩ := HR.out.2.2.2.at j hjr
            obtain ⟨x, hx⟩ : ∃ x, x = r.getD j 0 := ⟨_, rfl⟩
            rw [← hx] at hcell'
            have HX := Lib.hid (And.intro hjr hx)
            clear hjr hx
            go_wp2
            · go_ret
              refine ⟨ret_bool (isMat_row HR.out.1 ?_).symm, rfl⟩
              rw [← HR.out.2.1]
              unfold rowOk
              rw [all_bad (p := fun x => decide (0 ≤ x ∧ x ≤ 1000000)) 0 HX.out.1 (by rw [← HX.out.2]; simp; omega), Bool.and_false]
            · go_round
              case rel => exact ⟨j + 1, by omega, by go_num, all_next (p := fun x => decide (0 ≤ x ∧ x ≤ 1000000)) 0 HX.out.1 HQ.out (by rw [← HX.out.2]; simp; omega)⟩
              case measure => simp [intOf]; omega
            · go_ret
              refine ⟨ret_bool (isMat_row HR.out.1 ?_).symm, rfl⟩
              rw [← HR.out.2.1]
              unfold rowOk
              rw [all_bad (p := fun x => decide (0 ≤ x ∧ x ≤ 1000000)) 0 HX.out.1 (by rw [← HX.out.2]; simp; omega), Bool.and_false]
          · have hjL : j = L := by omega
            have hrow : rowOk n r = true := by
              have h1 := HQ.out
              rw [hjL, HR.out.2.2.1] at h1
              rw [rowOk_of (by rw [← HR.out.2.2.1]; exact HL.out)]
              exact all_done h1
            have HO := Lib.hid hrow
            clear hrow
            go_wp2
            go_round
            case rel => exact ⟨k + 1, by omega, by go_num, all_next [] HR.out.1 HP.out (by rw [← HR.out.2.1]; exact HO.out)⟩
            case measure => simp [intOf]; omega
      · have hLn1 : ((L : Int) != (n : Int)) = true := by simp; omega
        have HL := Lib.hid hLn
        clear hLn
        go_wp2
        go_ret
        exact ⟨ret_bool (isMat_row HR.out.1 (by rw [← HR.out.2.1]; exact rowOk_len (by rw [← HR.out.2.2.1, ← HM.out.2]; exact HL.out))).symm, rfl⟩
    · have hkn : k = n := by omega
      have h2 := HP.out
      rw [hkn, HM.out.2] at h2
      have HA := Lib.hid (isMat_all (by rw [← HM.out.2]; omega) h2)
      clear h2
      go_wp2
      go_ret
      exact ⟨ret_bool HA.out.symm, rfl⟩
end Go.Proofs.YtdngkfedkgiioaaDoor

/- Contracts: matrices and small matrices, by the reference; small ones and sums, by the program. -/
namespace Go.Proofs.YtdngkfedkgiioaaDoor
open Go.RowKit Go.Mx

set_option maxHeartbeats 2000000 in
theorem spec_IsMatrix_any (v : Value) (m : List (List Int)) (w : World) (h : ReadsRows w v m) :
    Calls Tryd.prog 64 #[v] w fun e w' => e = .returned (.bool (isMat m)) ∧ w = w' := by
  obtain ⟨a, c, rfl⟩ := h.slice
  obtain ⟨-, hlc, hc⟩ := h.len
  obtain ⟨n, hn⟩ : ∃ n, n = m.length := ⟨_, rfl⟩
  rw [← hn] at hlc h ⊢
  have HM := Lib.hid (And.intro h hn)
  clear h hn
  go_enter Tryd.func64, Tryd.ntmps64
  go_wp2
  go_loop [3] (fun i => ∃ k : Nat, k ≤ n ∧ i = .int .i64 k ∧ (m.take k).all (rowOk n) = true) (fun i => n - (intOf i).toNat)
  case atStart => exact ⟨0, by omega, rfl, by simp⟩
  case round =>
    obtain ⟨k, hk, rfl, hp⟩ := hrel
    have HP := Lib.hid hp
    clear hp
    by_cases hlt : k < n
    · have hkm : k < m.length := by rw [← HM.out.2]; exact hlt
      obtain ⟨b, o, a', c', rfl, hcell, hrow⟩ := HM.out.1.at k hkm
      obtain ⟨-, hl1, hl2⟩ := hrow.len
      obtain ⟨r, hr⟩ : ∃ r, r = m.getD k [] := ⟨_, rfl⟩
      rw [← hr] at hcell hrow hl1
      obtain ⟨L, hL⟩ : ∃ L, L = r.length := ⟨_, rfl⟩
      rw [← hL] at hcell hrow hl1
      have HR := Lib.hid (And.intro hkm (And.intro hr (And.intro hL hrow)))
      clear hkm hr hL hrow
      by_cases hLn : L = n
      · have HL := Lib.hid hLn
        have hLn1 : ((L : Int) != (n : Int)) = false := by simp [hLn]
        have hLn2 : L ≤ n := by omega
        have hLn3 : n ≤ L := by omega
        clear hLn
        go_wp2
        go_loop [4] (fun i => ∃ j : Nat, j ≤ n ∧ i = .int .i64 j ∧ (r.take j).all (fun x => decide (0 ≤ x ∧ x ≤ 1000000)) = true) (fun i => n - (intOf i).toNat)
        case atStart => exact ⟨0, by omega, rfl, by simp⟩
        case round =>
          obtain ⟨j, hj, rfl, hq⟩ := hrel
          have HQ := Lib.hid hq
          clear hq
          by_cases hltj : j < n
          · have hjr : j < r.length := by rw [← HR.out.2.2.1]; omega
            obtain ⟨b', o', rfl, hcell'⟩ := HR.out.2.2.2.at j hjr
            obtain ⟨x, hx⟩ : ∃ x, x = r.getD j 0 := ⟨_, rfl⟩
            rw [← hx] at hcell'
            have HX := Lib.hid (And.intro hjr hx)
            clear hjr hx
            go_wp2_with fail
            with_reducible refine (spec_l1In_any _ _ _ _).mono ?_
            rintro e w1 ⟨rfl, rfl⟩
            cases hb : (decide (0 ≤ x) && decide (x ≤ 1000000)) with
            | true =>
              have HB := Lib.hid hb
              clear hb
              go_wp2
              go_round
              case rel => exact ⟨j + 1, by omega, by go_num, all_next (p := fun x => decide (0 ≤ x ∧ x ≤ 1000000)) 0 HX.out.1 HQ.out (by rw [← HX.out.2]; have := HB.out; simp at this ⊢; omega)⟩
              case measure => simp [intOf]; omega
            | false =>
              have HB := Lib.hid hb
              clear hb
              go_wp2
              go_ret
              refine ⟨ret_bool (isMat_row HR.out.1 ?_).symm, rfl⟩
              rw [← HR.out.2.1]
              unfold rowOk
              rw [all_bad (p := fun x => decide (0 ≤ x ∧ x ≤ 1000000)) 0 HX.out.1 (by rw [← HX.out.2]; have := HB.out; simp at this ⊢; omega), Bool.and_false]
          · have hjL : j = L := by omega
            have hrow : rowOk n r = true := by
              have h1 := HQ.out
              rw [hjL, HR.out.2.2.1] at h1
              rw [rowOk_of (by rw [← HR.out.2.2.1]; exact HL.out)]
              exact all_done h1
            have HO := Lib.hid hrow
            clear hrow
            go_wp2
            go_round
            case rel => exact ⟨k + 1, by omega, by go_num, all_next [] HR.out.1 HP.out (by rw [← HR.out.2.1]; exact HO.out)⟩
            case measure => simp [intOf]; omega
      · have hLn1 : ((L : Int) != (n : Int)) = true := by simp; omega
        have HL := Lib.hid hLn
        clear hLn
        go_wp2
        go_ret
        exact ⟨ret_bool (isMat_row HR.out.1 (by rw [← HR.out.2.1]; exact rowOk_len (by rw [← HR.out.2.2.1, ← HM.out.2]; exact HL.out))).symm, rfl⟩
    · have hkn : k = n := by omega
      have h2 := HP.out
      rw [hkn, HM.out.2] at h2
      have HA := Lib.hid h2
      clear h2
      go_wp2_with fail
      with_reducible refine (spec_l1In_any _ _ _ _).mono ?_
      rintro e w1 ⟨rfl, rfl⟩
      go_wp2
      go_ret
      refine ⟨ret_bool ?_, rfl⟩
      by_cases h19 : 1 ≤ n ∧ n ≤ 9
      · rw [isMat_all (by rw [← HM.out.2]; exact h19) HA.out]; simp; omega
      · rw [isMat_size (by rw [← HM.out.2]; exact h19)]; simp; omega

set_option maxHeartbeats 2000000 in
theorem impl_IsSmall_any (v : Value) (m : List (List Int)) (w : World) (h : ReadsRows w v m) :
    Calls Tryd.prog 21 #[v] w fun e w' => e = .returned (.bool (isSm m)) ∧ w = w' := by
  have hi := impl_IsMatrix_any v m w h
  cases hm : isMat m with
  | false =>
    rw [hm] at hi
    have HI := Lib.hid hi
    have HN := Lib.hid (isSm_noMat hm)
    clear hi hm
    go_enter Tryd.func21, Tryd.ntmps21
    go_wp2_with (go_at_call 63; with_reducible refine HI.out.mono ?_; rintro e w' ⟨rfl, rfl⟩)
    go_ret
    exact ⟨ret_bool HN.out.symm, rfl⟩
  | true =>
    rw [hm] at hi
    have hM := isMat_yes hm
    have h1 := hM.pos
    have h9 := hM.le
    obtain ⟨a, c, rfl⟩ := h.slice
    obtain ⟨-, hlc, hc⟩ := h.len
    obtain ⟨n, hn⟩ : ∃ n, n = m.length := ⟨_, rfl⟩
    rw [← hn] at hlc h hM h1 h9 hi ⊢
    have HM := Lib.hid (And.intro h (And.intro hn (And.intro hM (And.intro hm hi))))
    clear h hn hM hm hi
    by_cases h4 : 4 < n
    · go_enter Tryd.func21, Tryd.ntmps21
      go_wp2_with (go_at_call 63; with_reducible refine HM.out.2.2.2.2.mono ?_; rintro e w' ⟨rfl, rfl⟩)
      go_ret
      exact ⟨ret_bool (isSm_long (by rw [← HM.out.2.1]; omega)).symm, rfl⟩
    go_enter Tryd.func21, Tryd.ntmps21
    go_wp2_with (go_at_call 63; with_reducible refine HM.out.2.2.2.2.mono ?_; rintro e w' ⟨rfl, rfl⟩)
    go_loop [17] (fun i => ∃ k : Nat, k ≤ n ∧ i = .int .i64 k ∧ (m.take k).all lowOk = true) (fun i => n - (intOf i).toNat)
    case atStart => exact ⟨0, by omega, rfl, by simp⟩
    case round =>
      obtain ⟨k, hk, rfl, hp⟩ := hrel
      have HP := Lib.hid hp
      clear hp
      by_cases hlt : k < n
      · have hkm : k < m.length := by rw [← HM.out.2.1]; exact hlt
        obtain ⟨b, o, a', c', rfl, hcell, hrow⟩ := HM.out.1.at k hkm
        rw [HM.out.2.2.1.row k hlt] at hcell hrow
        obtain ⟨r, hr⟩ : ∃ r, r = m.getD k [] := ⟨_, rfl⟩
        rw [← hr] at hrow
        have hrl : r.length = n := by rw [hr]; exact HM.out.2.2.1.row k hlt
        have HR := Lib.hid (And.intro hkm (And.intro hr (And.intro hrl hrow)))
        clear hkm hr hrl hrow
        go_wp2
        go_loop [23] (fun i => ∃ j : Nat, j ≤ n ∧ i = .int .i64 j ∧ (r.take j).all (fun x => decide (x ≤ 9)) = true) (fun i => n - (intOf i).toNat)
        case atStart => exact ⟨0, by omega, rfl, by simp⟩
        case round =>
          obtain ⟨j, hj, rfl, hq⟩ := hrel
          have HQ := Lib.hid hq
          clear hq
          by_cases hltj : j < n
          · have hjr : j < r.length := by rw [HR.out.2.2.1]; exact hltj
            obtain ⟨b', o', rfl, hcell'⟩ := HR.out.2.2.2.at j hjr
            obtain ⟨x, hx⟩ : ∃ x, x = r.getD j 0 := ⟨_, rfl⟩
            rw [← hx] at hcell'
            have HX := Lib.hid (And.intro hjr hx)
            clear hjr hx
            go_wp2
            · go_ret
              exact ⟨ret_bool (isSm_bad HR.out.1 (by rw [← HR.out.2.1]; exact lowOk_bad HX.out.1 (by rw [← HX.out.2]; assumption))).symm, rfl⟩
            · go_round
              case rel => exact ⟨j + 1, by omega, by go_num, lowOk_next HX.out.1 HQ.out (by rw [← HX.out.2]; omega)⟩
              case measure => simp [intOf]; omega
          · have hjL : j = r.length := by rw [HR.out.2.2.1]; omega
            have HO := Lib.hid (show lowOk r = true by
              have h1 := HQ.out
              rw [hjL] at h1
              exact all_done h1)
            clear hjL
            go_wp2
            go_round
            case rel => exact ⟨k + 1, by omega, by go_num, all_next [] HR.out.1 HP.out (by rw [← HR.out.2.1]; exact HO.out)⟩
            case measure => simp [intOf]; omega
      · have hkn : k = n := by omega
        have h2 := HP.out
        rw [hkn, HM.out.2.1] at h2
        have HA := Lib.hid (isSm_all HM.out.2.2.2.1 (by rw [← HM.out.2.1]; omega) h2)
        clear h2
        go_wp2
        go_ret
        exact ⟨ret_bool HA.out.symm, rfl⟩

set_option maxHeartbeats 2000000 in
theorem spec_IsSmall_any (v : Value) (m : List (List Int)) (w : World) (h : ReadsRows w v m) :
    Calls Tryd.prog 22 #[v] w fun e w' => e = .returned (.bool (isSm m)) ∧ w = w' := by
  have hi := spec_IsMatrix_any v m w h
  obtain ⟨a, c, rfl⟩ := h.slice
  obtain ⟨-, hlc, hc⟩ := h.len
  obtain ⟨n, hn⟩ : ∃ n, n = m.length := ⟨_, rfl⟩
  rw [← hn] at hlc h hi ⊢
  have HM := Lib.hid (And.intro h (And.intro hn hi))
  clear h hn hi
  go_enter Tryd.func22, Tryd.ntmps22
  go_wp2
  go_loop [3] (fun i => ∃ k : Nat, k ≤ n ∧ i = .int .i64 k ∧ (m.take k).all lowOk = true) (fun i => n - (intOf i).toNat)
  case atStart => exact ⟨0, by omega, rfl, by simp⟩
  case round =>
    obtain ⟨k, hk, rfl, hp⟩ := hrel
    have HP := Lib.hid hp
    clear hp
    by_cases hlt : k < n
    · have hkm : k < m.length := by rw [← HM.out.2.1]; exact hlt
      obtain ⟨b, o, a', c', rfl, hcell, hrow⟩ := HM.out.1.at k hkm
      obtain ⟨-, hl1, hl2⟩ := hrow.len
      obtain ⟨r, hr⟩ : ∃ r, r = m.getD k [] := ⟨_, rfl⟩
      rw [← hr] at hcell hrow hl1
      obtain ⟨L, hL⟩ : ∃ L, L = r.length := ⟨_, rfl⟩
      rw [← hL] at hcell hrow hl1
      have HR := Lib.hid (And.intro hkm (And.intro hr (And.intro hL hrow)))
      clear hkm hr hL hrow
      go_wp2
      go_loop [4] (fun i => ∃ j : Nat, j ≤ L ∧ i = .int .i64 j ∧ (r.take j).all (fun x => decide (x ≤ 9)) = true) (fun i => L - (intOf i).toNat)
      case atStart => exact ⟨0, by omega, rfl, by simp⟩
      case round =>
        obtain ⟨j, hj, rfl, hq⟩ := hrel
        have HQ := Lib.hid hq
        clear hq
        by_cases hltj : j < L
        · have hjr : j < r.length := by rw [← HR.out.2.2.1]; exact hltj
          obtain ⟨b', o', rfl, hcell'⟩ := HR.out.2.2.2.at j hjr
          obtain ⟨x, hx⟩ : ∃ x, x = r.getD j 0 := ⟨_, rfl⟩
          rw [← hx] at hcell'
          have HX := Lib.hid (And.intro hjr hx)
          clear hjr hx
          go_wp2
          · go_ret
            exact ⟨ret_bool (isSm_bad HR.out.1 (by rw [← HR.out.2.1]; exact lowOk_bad HX.out.1 (by rw [← HX.out.2]; assumption))).symm, rfl⟩
          · go_round
            case rel => exact ⟨j + 1, by omega, by go_num, lowOk_next HX.out.1 HQ.out (by rw [← HX.out.2]; omega)⟩
            case measure => simp [intOf]; omega
        · have hjL : j = r.length := by rw [← HR.out.2.2.1]; omega
          have HO := Lib.hid (show lowOk r = true by
            have h1 := HQ.out
            rw [hjL] at h1
            exact all_done h1)
          clear hjL
          go_wp2
          go_round
          case rel => exact ⟨k + 1, by omega, by go_num, all_next [] HR.out.1 HP.out (by rw [← HR.out.2.1]; exact HO.out)⟩
          case measure => simp [intOf]; omega
    · have hkn : k = n := by omega
      have h2 := HP.out
      rw [hkn, HM.out.2.1] at h2
      have h3 := isSm_of h2
      rw [← HM.out.2.1] at h3
      have H3 := Lib.hid h3
      clear h2 h3
      go_wp2_with fail
      with_reducible refine HM.out.2.2.mono ?_
      rintro e w' ⟨rfl, rfl⟩
      cases hm : isMat m with
      | false =>
        have H4 := Lib.hid (show isSm m = false by rw [H3.out, hm]; rfl)
        clear hm
        go_wp2
        go_ret
        exact ⟨ret_bool H4.out.symm, rfl⟩
      | true =>
        have H4 := Lib.hid (show isSm m = decide (n ≤ 4) by rw [H3.out, hm]; rfl)
        clear hm
        go_wp2
        go_ret
        exact ⟨ret_bool (by rw [H4.out]; simp; omega), rfl⟩

set_option maxHeartbeats 1000000 in
theorem impl_total_any (v : Value) (xs : List Int) (w : World) (h : ReadsI w v xs) (hl : xs.length ≤ 1000) (hb : ∀ j, 0 ≤ xs.getD j 0 ∧ xs.getD j 0 ≤ 1000000) :
    Calls Tryd.prog 70 #[v] w fun e w' => e = .returned (.int .i64 xs.sum) ∧ w = w' := by
  obtain ⟨a, c, rfl⟩ := h.slice
  obtain ⟨n, hn⟩ : ∃ n, n = xs.length := ⟨_, rfl⟩
  rw [← hn] at h hl ⊢
  have HM := Lib.hid (And.intro h (And.intro hn hb))
  clear h hn hb
  go_enter Tryd.func70, Tryd.ntmps70
  go_wp2
  go_loop [3, 8] (fun v i => ∃ k : Nat, k ≤ n ∧ i = .int .i64 k ∧ v = .int .i64 (xs.take k).sum) (fun _ i => n - (intOf i).toNat)
  case atStart => exact ⟨0, by omega, rfl, by simp⟩
  case round =>
    obtain ⟨k, hk, rfl, rfl⟩ := hrel
    by_cases hlt : k < n
    · have hkm : k < xs.length := by rw [← HM.out.2.1]; exact hlt
      obtain ⟨b, o, rfl, hcell⟩ := HM.out.1.at k hkm
      have hs := sum_take_succ xs k hkm
      obtain ⟨hb1, hb2⟩ := sum_take_pos xs 1000000 (by omega) HM.out.2.2 k
      obtain ⟨hy1, hy2⟩ := HM.out.2.2 k
      obtain ⟨y, hy⟩ : ∃ y, y = xs.getD k 0 := ⟨_, rfl⟩
      obtain ⟨s, hss⟩ : ∃ s, s = (xs.take k).sum := ⟨_, rfl⟩
      rw [← hy] at hcell hs hy1 hy2
      rw [← hss] at hs hb1 hb2 ⊢
      have hb3 : s ≤ 1000000000 := by omega
      have HS := Lib.hid hs
      clear hs hy hss hb2
      go_wp2
      go_round
      case rel => exact ⟨k + 1, by omega, by go_num, by rw [HS.out]⟩
      case measure => simp [intOf]; omega
    · have hkn : k = n := by omega
      have e : xs.take k = xs := by rw [hkn, HM.out.2.1]; exact List.take_length
      rw [e]
      clear e
      go_wp2
      go_ret
      exact ⟨rfl, rfl⟩
end Go.Proofs.YtdngkfedkgiioaaDoor

/- Contracts: two graphs joined, by the program. -/
namespace Go.Proofs.YtdngkfedkgiioaaDoor
open Go.RowKit Go.Mx

theorem infoIntSize : (Tryd.prog.info? 3).map (·.size) = some 1 := by kernel_rfl

end Go.Proofs.YtdngkfedkgiioaaDoor

/- Contracts: two graphs joined, by the reference. -/
namespace Go.Proofs.YtdngkfedkgiioaaDoor
open Go.RowKit Go.Mx

theorem spec_nil_rows (w : World) : ReadsRows (w.alloc (.cells #[] 26)) (.slice (some ⟨w.heap.size, 0, none⟩) 0 0) [] := ReadsRows.nil _ _ _ rfl

end Go.Proofs.YtdngkfedkgiioaaDoor

/- Contracts of the laws' own helpers on codes: the sizes, the copy, the comparison. -/
namespace Go.Proofs.YtdngkfedkgiioaaDoor
open Go.RowKit

/-- a size left over -/
def leftS (n : Int) (k : Nat) : Int := if n - k < 0 then -1 else n - k
theorem leftS_le (n : Int) (k : Nat) (h : 0 ≤ n) : leftS n k ≤ n := by unfold leftS; split <;> omega

theorem bytes_eq {s s' : ByteArray} (h : s.toList = s'.toList) : s = s' := by
  rw [ByteArray.toList_eq, ByteArray.toList_eq] at h
  obtain ⟨⟨l⟩⟩ := s
  obtain ⟨⟨l'⟩⟩ := s'
  have : l = l' := h
  rw [this]

def sameCode (L W : Int) (s : ByteArray) (L' W' : Int) (s' : ByteArray) : Bool := decide (L = L' ∧ W = W' ∧ s = s')

end Go.Proofs.YtdngkfedkgiioaaDoor

/- Contracts: powers, letters, what a code is. -/
namespace Go.Proofs.YtdngkfedkgiioaaDoor
open Go.RowKit Go.Cm

theorem codeOk_letters {L W : Int} {s : ByteArray} (h2 : ¬ L = 2) (h3 : ¬ L = 3) : codeOk L W s = false := by simp [codeOk, h2, h3]
theorem codeOk_low {L W : Int} {s : ByteArray} (h : ¬ 1 ≤ W) : codeOk L W s = false := by simp [codeOk, h]
theorem codeOk_high {L W : Int} {s : ByteArray} (h : ¬ W ≤ 4) : codeOk L W s = false := by simp [codeOk, h]
theorem codeOk_width {L W : Int} {s : ByteArray} (h : ¬ (1 ≤ W ∧ W ≤ 4)) : codeOk L W s = false := by
  by_cases h1 : 1 ≤ W
  · exact codeOk_high (fun h4 => h ⟨h1, h4⟩)
  · exact codeOk_low h1
theorem codeOk_great {L W : Int} {s : ByteArray} (h : ¬ pw L W ≤ 27) : codeOk L W s = false := by simp [codeOk, h]
theorem codeOk_size {L W : Int} {s : ByteArray} (h : ¬ (s.size : Int) = pw L W) : codeOk L W s = false := by simp [codeOk, h]
theorem codeOk_rest {L W : Int} {s : ByteArray} (h : L = 2 ∨ L = 3) (h1 : 1 ≤ W) (h2 : W ≤ 4) (h3 : pw L W ≤ 27) (h4 : (s.size : Int) = pw L W) : codeOk L W s = areLet L s.data.toList := by
  unfold codeOk
  rw [decide_eq_true h1, decide_eq_true h2, decide_eq_true h3, decide_eq_true h4]
  rcases h with h | h <;> simp [h]

end Go.Proofs.YtdngkfedkgiioaaDoor

/- Contract: the reference's IsCode. -/
namespace Go.Proofs.YtdngkfedkgiioaaDoor
open Go.RowKit Go.Cm

theorem codeOk_at {L W : Int} {s : ByteArray} {k : Nat} (hk : k < s.size) (h1 : ¬ (97 ≤ (s[k].toNat : Int) ∧ (s[k].toNat : Int) - 97 < L)) : codeOk L W s = false := by
  unfold codeOk
  rw [areLet_bad hk h1]
  simp

end Go.Proofs.YtdngkfedkgiioaaDoor

/- Contracts: the word at an index, the words of a length. -/
namespace Go.Proofs.YtdngkfedkgiioaaDoor
open Go.RowKit Go.Cm

/-- where the loop of wordAt stands: k letters are still to come -/
structure WordSt (K n i0 : Nat) (k rest : Nat) (fs : List Value) : Prop where
  le : k ≤ n
  len : fs.length = n
  word : ∃ t : List UInt8, wordL K k rest ++ t = wordL K n i0 ∧ fs.drop k = bcells t

theorem wordSt_start (K n i : Nat) : WordSt K n i n i (List.replicate n (.int .u8 0)) :=
  ⟨Nat.le_refl _, by simp, [], by simp, by simp [bcells]⟩
theorem wordSt_step {K n i0 k rest : Nat} {fs : List Value} (hK : K ≤ 3) (hK0 : 0 < K) (h : WordSt K n i0 (k + 1) rest fs) : WordSt K n i0 k (rest / K) (fs.set k (.int .u8 ((97 : Int) + (rest : Int) % (K : Int)))) := by
  obtain ⟨hle, hlen, t, ht, hf⟩ := h
  refine ⟨by omega, by simpa using hlen, letN (rest % K) :: t, ?_, ?_⟩
  · rw [← ht]; simp [wordL]
  · have hk : k < fs.length := by omega
    rw [List.drop_eq_getElem_cons (by simpa using hk)]
    simp only [List.getElem_set_self, bcells, List.map_cons]
    have hm : rest % K < K := Nat.mod_lt _ hK0
    unfold letN
    rw [ofNat_toNat (by omega)]
    have e : ((97 + rest % K : Nat) : Int) = (97 : Int) + (rest : Int) % (K : Int) := by simp
    rw [e]
    congr 1
    rw [List.drop_set_of_lt (by omega)]
    exact hf
theorem wordSt_end {K n i0 rest : Nat} {fs : List Value} (h : WordSt K n i0 0 rest fs) : fs = bcells (wordL K n i0) := by
  obtain ⟨_, _, t, ht, hf⟩ := h
  have : t = wordL K n i0 := by simpa [wordL] using ht
  rw [← this]; simpa using hf

theorem wordsL_take (k n j : Nat) (hj : j < k ^ n) : (wordsL k n).take (j + 1) = (wordsL k n).take j ++ [wordL k n j] := by
  rw [List.take_succ_eq_append_getElem (by simpa [wordsL] using hj)]
  simp [wordsL]
theorem wordsL_all (k n : Nat) : (wordsL k n).take (k ^ n) = wordsL k n := List.take_of_length_le (by simp [wordsL])
theorem wordsL_take_length (k n j : Nat) (hj : j ≤ k ^ n) : ((wordsL k n).take j).length = j := by simp [wordsL]; omega
/-- words as cells -/
def scells (l : List (List UInt8)) : List Value := l.map fun u => .string (mkS u)
theorem pw_nat (K n : Nat) : pw (K : Int) (n : Int) = ((K ^ n : Nat) : Int) := by simp [pw]

end Go.Proofs.YtdngkfedkgiioaaDoor

/- Contract: the code that gives letters by a function. -/
namespace Go.Proofs.YtdngkfedkgiioaaDoor
open Go.RowKit Go.Cm

/-- may there be a code so wide? -/
def wideOk (L W : Int) : Bool := (decide (L = 2) || decide (L = 3)) && (decide (1 ≤ W) && (decide (W ≤ 4) && decide (pw L W ≤ 27)))

theorem wideOk_yes {L W : Int} (h : wideOk L W = true) : (L = 2 ∨ L = 3) ∧ 1 ≤ W ∧ W ≤ 4 ∧ pw L W ≤ 27 := by
  simpa [wideOk] using h

end Go.Proofs.YtdngkfedkgiioaaDoor

/- Cells and frozen marks behind a chain of allocs. -/
namespace Go.Proofs.YtdngkfedkgiioaaDoor
open Go.RowKit Go.Cm

theorem cell_new {w : World} {c : Array Value} {t : TypeId} {n i : Nat} {v : Value} (h : n = w.heap.size) (hv : c[i]? = some v) : (w.alloc (.cells c t)).cell? ⟨n, i, none⟩ = some v := by
  subst h
  rw [World.cell?_alloc_new, hv]

theorem cell_old {w : World} {o : Obj} {n i : Nat} {v : Value} (h : w.cell? ⟨n, i, none⟩ = some v) : (w.alloc o).cell? ⟨n, i, none⟩ = some v := by
  rw [World.cell?_alloc_lt _ _ _ (World.block_lt_of_cell? w _ h), h]

theorem frozen_new {w : World} {c : Array Value} {t : TypeId} {n i : Nat} (h : n = w.heap.size) : (w.alloc (.cells c t)).frozen? ⟨n, i, none⟩ = false := by
  subst h
  rw [World.frozen?_alloc_new]

theorem frozen_old {w : World} {o : Obj} {n i : Nat} (h : n < w.heap.size) (hf : w.frozen? ⟨n, i, none⟩ = false) : (w.alloc o).frozen? ⟨n, i, none⟩ = false := by
  rw [World.frozen?_alloc_old _ _ _ (Nat.ne_of_lt h), hf]

theorem Ext.frozen_is {w w' : World} {n i : Nat} (hx : Ext w w') (h : n < w.heap.size) (hf : w.frozen? ⟨n, i, none⟩ = false) : w'.frozen? ⟨n, i, none⟩ = false :=
  (Below.frozen (p := ⟨n, i, none⟩) hx h).trans hf

theorem Ext.frozen_cell {w w' : World} {n i : Nat} {v : Value} (hx : Ext w w') (hc : w.cell? ⟨n, i, none⟩ = some v) (hf : w.frozen? ⟨n, i, none⟩ = false) : w'.frozen? ⟨n, i, none⟩ = false :=
  Ext.frozen_is hx (World.block_lt_of_cell? w _ hc) hf

/-- A block is at hand: its cells and that they are not frozen. -/
structure Blk (w : World) (b : Nat) (c : Array Value) : Prop where
  cell : ∀ i v, c[i]? = some v → w.cell? ⟨b, i, none⟩ = some v
  frozen : ∀ i, w.frozen? ⟨b, i, none⟩ = false
  lt : b < w.heap.size

theorem Blk.mk' {w : World} {c : Array Value} {t : TypeId} {n : Nat} (h : n = w.heap.size) : Blk (w.alloc (.cells c t)) n c :=
  ⟨fun _ _ hv => cell_new h hv, fun _ => frozen_new h, by simp; omega⟩

theorem Blk.old {w : World} {o : Obj} {b : Nat} {c : Array Value} (h : Blk w b c) : Blk (w.alloc o) b c :=
  ⟨fun i v hv => cell_old (h.cell i v hv), fun i => frozen_old h.lt (h.frozen i), by have := h.lt; simp; omega⟩

theorem Blk.ext {w w' : World} {b : Nat} {c : Array Value} (h : Blk w b c) (hx : Ext w w') : Blk w' b c :=
  ⟨fun i v hv => hx.cell_some (h.cell i v hv), fun i => Ext.frozen_is hx h.lt (h.frozen i), Nat.lt_of_lt_of_le h.lt hx.size⟩

/-- Cells of a block behind a store. -/
theorem Blk.set {w : World} {b i : Nat} {c : Array Value} (h : Blk w b c) (hi : i < c.size) (v : Value) : Blk (w.setCell ⟨b, i, none⟩ v) b (c.set i v hi) := by
  refine ⟨fun j u hu => ?_, fun j => by rw [World.frozen?_setCell, h.frozen], by simpa using h.lt⟩
  by_cases e : i = j
  · subst e
    have : u = v := by simpa using hu.symm
    subst this
    exact World.cell?_setCell_same w _ _ (h.cell i c[i] (by simp [hi]))
  · rw [World.cell?_setCell_other _ _ _ _ (by intro h; injection h; contradiction)]
    exact h.cell j u (by simpa [Array.getElem?_set, e] using hu)

theorem Blk.other {w : World} {b b' i : Nat} {c : Array Value} (h : Blk w b c) (hb : b' ≠ b) (v : Value) : Blk (w.setCell ⟨b', i, none⟩ v) b c := by
  refine ⟨fun j u hu => ?_, fun j => by rw [World.frozen?_setCell, h.frozen], by simpa using h.lt⟩
  rw [World.cell?_setCell_other _ _ _ _ (by intro h; injection h; contradiction)]
  exact h.cell j u hu

theorem Blk.c3 {w : World} {b : Nat} {x y z : Value} (h : Blk w b #[x, y, z]) : w.cell? ⟨b, 0, none⟩ = some x ∧ w.cell? ⟨b, 1, none⟩ = some y ∧ w.cell? ⟨b, 2, none⟩ = some z ∧ w.frozen? ⟨b, 0, none⟩ = false ∧ w.frozen? ⟨b, 1, none⟩ = false ∧ w.frozen? ⟨b, 2, none⟩ = false :=
  ⟨h.cell 0 _ rfl, h.cell 1 _ rfl, h.cell 2 _ rfl, h.frozen 0, h.frozen 1, h.frozen 2⟩

theorem Ext.alloced {w w' : World} (h : Ext w w') (o : Obj) : Ext w (w'.alloc o) := h.trans (Ext.alloc _ _)
theorem Ext.stored {w w' : World} {a : Addr} {v : Value} (h : Ext w w') (ha : w.heap.size ≤ a.block) : Ext w (w'.setCell a v) := h.setCell ha v

theorem GB.blk {W wr : World} {row : Option Nat} {b : Nat} {c : Array Value} (h : W.grownBy wr row) (k : Blk W b c) (hne : row ≠ some b) : Blk wr b c :=
  ⟨fun i v hv => GB.cell h (k.cell i v hv) hne, fun i => (GB.frozen h (a := ⟨b, i, none⟩) k.lt hne).trans (k.frozen i), Nat.lt_of_lt_of_le k.lt h.size⟩

end Go.Proofs.YtdngkfedkgiioaaDoor

/- The closed facts that every row's proof asks. -/
namespace Go.Proofs.YtdngkfedkgiioaaDoor

theorem own : ownKnob Tryd.prog.godebug = none := by kernel_rfl
theorem laidOut : laidOutB Tryd.prog = true := by kernel_rfl

-- The head's words, read off the list of the text's letters: the kernel is spared the reading of a text.
set_option maxRecDepth 100000 in
theorem headWords : ∃ l, Tryd.prog.initOrder.toList = l ∧ (behindMainWord (wordsSigns l)).head? = some "cut".toList :=
  ⟨_, String.toList_ofList, by kernel_rfl⟩
theorem headCut : (behindMainWord (wordsSigns Tryd.prog.initOrder.toList)).head? = some "cut".toList := by
  obtain ⟨l, h1, h2⟩ := headWords
  rw [h1]; exact h2
theorem laysNone : Tryd.prog.laysLater = false := by kernel_rfl
theorem bearsNone : Tryd.prog.bearsReflect = false := by kernel_rfl
theorem doorNone : Tryd.prog.doorFits [] = true := by kernel_rfl
theorem mayEnter_it : Tryd.prog.mayEnter = true := mayEnter_of headCut laysNone bearsNone doorNone
theorem liftsFinal_it : Tryd.prog.liftsFinal = false := liftsFinal_of headCut
theorem make_it : Tryd.prog.make = some .cut := make_of headCut
end Go.Proofs.YtdngkfedkgiioaaDoor

